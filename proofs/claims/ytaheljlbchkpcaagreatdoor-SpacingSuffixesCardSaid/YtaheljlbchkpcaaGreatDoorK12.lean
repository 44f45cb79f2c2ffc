/- SpacingSuffixes: parts of its proof (AwM AwN AwR). -/
import Derived.Maps.RangeRun
import Derived.Test.YtaheljlbchkpcaaGreatDoorK11
set_option linter.unusedVariables false
set_option linter.unusedSimpArgs false
noncomputable section
namespace Go.aw
variable {e:Env} {ro:Option Nat}
def np(e:Env)(ty:TypeId)(ok:Bool)(k:Value):Option bK->Option Value
 |some (.map es _)=>match e.under ty with
  |some (.map kt et)=>match e.under kt with
   |none=>none
   |some kd=>bif plain k&&oe kd k then match bY e.P (Instr.checkKey es.isEmpty 10000 kt k)with
    |none=>none
    |some _=>match gB e.P kt k es 0 with
     |none=>none
     |some (some (_,v))=>some (bif ok then .tuple #[v,.bool true]else v)
     |some none=>match e.zero et with
      |none=>none
      |some z=>bif plain z then some (bif ok then .tuple #[z,.bool false]else z)else none
    else none
  |_=>none
 |_=>none
theorem yE(h:aa)(ty:TypeId)(ok:Bool)(r:Nat)(k:Value):oz e h ty ok (.map (some r)) k=np e ty ok k (h.get r):=by
 simp only[oz,qC,np];cases hu:e.under ty with
 |none=>cases h.get r with
  |none=>rfl
  |some o=>cases o<;>rfl
 |some d=>
  cases d with
  |map kt et=>
   simp only;cases h.get r with
   |none=>rfl
   |some o=>cases o<;>rfl
  |_=>cases h.get r with
   |none=>rfl
   |some o=>cases o<;>rfl
def oC(e:Env)(ty:TypeId)(k v:Value)(es:List MapEntry)(clock:Nat):Option bK:=
 match e.under ty with
 |some (.map kt _)=>match e.under kt with
  |none=>none
  |some kd=>bif plain k&&oe kd k then match bY e.P (Instr.checkKey false 10000 kt k)with
   |none=>none
   |some _=>match gB e.P kt k es 0 with
    |none=>none
    |some (some (i,_))=>bif Instr.sameBits 10000 (((es[i]?).map (·.key)).getD k) k then
     some (.map (es.modify i λx=>{x with key:=k,val:=v}) clock)
     else none
    |some none=>some (.map (es++[{key:=k,val:=v,born:=clock}]) (clock+1))
   else none
 |_=>none
def Bv(e:Env)(ty:TypeId)(k v:Value)(h:aa)(r:Nat):Option bK->Option aa
 |some (.map es clock)=>(oC e ty k v es clock).map λo=>h.set r (some o)
 |_=>none
theorem FQ(h:aa)(ty:TypeId)(r:Nat)(k v:Value):pU e h ty (some (.map (some r))) (some k) (some v)=Bv e ty k v h r (h.get r):=by
 simp only[pU,se,Bv,oC];cases hu:e.under ty with
 |none=>cases h.get r with
  |none=>rfl
  |some o=>cases o<;>rfl
 |some d=>
  cases d with
  |map kt et=>
   simp only;cases h.get r with
   |none=>rfl
   |some o=>
    cases o with
    |map es clock=>
     simp only;cases e.under kt with
     |none=>rfl
     |some kd=>
      simp only;cases plain k&&oe kd k with
      |false=>rfl
      |true=>
       simp only[cond_true];cases bY e.P (Instr.checkKey false 10000 kt k)with
       |none=>rfl
       |some u=>
        simp only;cases gB e.P kt k es 0 with
        |none=>rfl
        |some p=>
         cases p with
         |none=>rfl
         |some q=>
          simp only;cases Instr.sameBits 10000 (((es[q.1]?).map (·.key)).getD k) k<;>rfl
    |_=>rfl
  |_=>cases h.get r with
   |none=>rfl
   |some o=>cases o<;>rfl
theorem FR(ty:TypeId)(k v:Value)(h:aa)(r:Nat)(es:List MapEntry)(clock:Nat):Bv e ty k v h r (some (.map es clock))=(oC e ty k v es clock).map λo=>h.set r (some o):=rfl
section
variable {κ ν:Type} [DecidableEq κ]
def bf(l:List (κ×ν))(a:κ):Option ν:=
 match l with
 |[]=>none
 |(k,v)::r=>if a=k then some v else bf r a
def put(l:List (κ×ν))(a:κ)(v:ν):List (κ×ν):=
 match l with
 |[]=>[(a,v)]
 |(k,w)::r=>if a=k then(a,v)::r else(k,w)::put r a v
theorem nq(l:List (κ×ν))(a b:κ)(v:ν):bf (put l a v) b=if b=a then some v else bf l b:=by
 induction l with
 |nil=>simp[put,bf]
 |cons p r ih=>
  obtain⟨k,w⟩:=p;simp only[put]
  split
  . rename_i h;subst h;simp only[bf]
    split<;>rfl
  . rename_i h;simp only[bf,ih]
    split
    . rename_i h2;subst h2;rw[if_neg (λh3=>h h3.symm)]
    . rfl
theorem qV{l:List (κ×ν)}{a:κ}{v:ν}(h:bf l a=none):put l a v=l++[(a,v)]:=by
 induction l with
 |nil=>rfl
 |cons p r ih=>
  obtain⟨k,w⟩:=p;simp only[bf]at h
  split at h
  . cases h
  . rename_i hk;simp only[put,if_neg hk,List.cons_append,ih h]
structure kP(e:Env)(kt:TypeId)(kf:κ->Value):Prop where
 kd:∃kd,e.under kt=some kd/\∀k,oe kd (kf k)=true
 plain:∀k,aw.plain (kf k)=true
 check:∀k b,∃u,bY e.P (Instr.checkKey b 10000 kt (kf k))=some u
 eq:∀a b,kI e.P kt (kf a) (kf b)=some (decide (a=b))
 bits:∀k,Instr.sameBits 10000 (kf k) (kf k)=true
def kh(kf:κ->Value)(vf:ν->Value)(es:List MapEntry)(l:List (κ×ν)):Prop:=es.map (λx=>(x.key,x.val))=l.map λp=>(kf p.1,vf p.2)
theorem yF{kt:TypeId}{kf:κ->Value}{vf:ν->Value}(hk:kP e kt kf):∀{es:List MapEntry} {l:List (κ×ν)} (a:κ) (i:Nat),kh kf vf es l->∃r,gB e.P kt (kf a) es i=some r/\
 (match bf l a with|none=>r=none|some v=>∃j,r=some (i+j,vf v)/\∃x,es[j]? =some x/\x.key=kf a/\∀w,kh kf vf (es.modify j λx=>{x with key:=kf a,val:=vf w}) (put l a w))
 |[],[],a,i,_=>⟨none,rfl,by simp[bf]⟩
 |[],_::_,a,i,h=>by simp[kh]at h
 |_::_,[],a,i,h=>by simp[kh]at h
 |x::es,(k,v)::l,a,i,h=>by
  simp only[kh,List.map_cons,List.cons.injEq,Prod.mk.injEq]at h;obtain⟨⟨h1,h2⟩,h3⟩:=h;simp only[gB,h1,hk.eq];by_cases e1:a=k
  . subst e1;simp only[decide_true,bf,if_true];refine⟨_,rfl,0,by rw[h2];rfl,x,rfl,h1,λw=> ?_⟩;simp only[kh,put,if_true,List.map_cons,List.modify_cons,if_pos];exact congrArg _ h3
  . simp only[e1,decide_false,bf,if_false];obtain⟨r,h4,h5⟩:=yF hk (vf:=vf) a (i+1) (show kh kf vf es l from h3);refine⟨r,h4, ?_⟩;cases ha:bf l a with
    |none=>simpa[ha]using h5
    |some v'=>
     simp only[ha]at h5⊢;obtain⟨j,h6,y,h7,h8,h9⟩:=h5;refine⟨j+1,by rw[h6];congr 2;omega,y,h7,h8,λw=> ?_⟩;have:=h9 w;simp only[kh]at this⊢;simp only[put,if_neg e1,List.map_cons,List.modify_succ_cons,this,h1,h2]
theorem yG{ty kt et:TypeId}{kf:κ->Value}{vf:ν->Value}(hk:kP e kt kf)(hu:e.under ty=some (.map kt et)){es:List MapEntry}{l:List (κ×ν)}(hl:kh kf vf es l)(a:κ)(ok:Bool)(clock:Nat){v:ν}(hv:bf l a=some v):
 np e ty ok (kf a) (some (.map es clock))=some (bif ok then .tuple #[vf v,.bool true]else vf v):=by
 obtain⟨kd,h1,h2⟩:=hk.kd;obtain⟨u,h3⟩:=hk.check a es.isEmpty;obtain⟨r,h4,h5⟩:=yF hk (vf:=vf) a 0 hl;rw[hv]at h5;obtain⟨j,rfl,_⟩:=h5;simp only[np,hu,h1,hk.plain,h2,Bool.and_self,cond_true,h3,h4]
theorem Bw{ty kt et:TypeId}{kf:κ->Value}{vf:ν->Value}(hk:kP e kt kf)(hu:e.under ty=some (.map kt et)){es:List MapEntry}{l:List (κ×ν)}(hl:kh kf vf es l)(a:κ)(ok:Bool)(clock:Nat){z:Value}(hz:e.zero et=some z)(hp:aw.plain z=true)(hv:bf l a=none):
 np e ty ok (kf a) (some (.map es clock))=some (bif ok then .tuple #[z,.bool false]else z):=by
 obtain⟨kd,h1,h2⟩:=hk.kd;obtain⟨u,h3⟩:=hk.check a es.isEmpty;obtain⟨r,h4,h5⟩:=yF hk (vf:=vf) a 0 hl;rw[hv]at h5;simp only at h5;subst h5;simp only[np,hu,h1,hk.plain,h2,Bool.and_self,cond_true,h3,h4,hz,hp]
theorem wH{ty kt et:TypeId}{kf:κ->Value}{vf:ν->Value}(hk:kP e kt kf)(hu:e.under ty=some (.map kt et)){es:List MapEntry}{l:List (κ×ν)}(hl:kh kf vf es l)(a:κ)(clock:Nat)(w:ν):
 ∃ad ab,oC e ty (kf a) (vf w) es clock=some (.map ad ab)/\kh kf vf ad (put l a w):=by
 obtain⟨kd,h1,h2⟩:=hk.kd;obtain⟨u,h3⟩:=hk.check a false;obtain⟨r,h4,h5⟩:=yF hk (vf:=vf) a 0 hl;cases hv:bf l a with
 |none=>
  rw[hv]at h5;simp only at h5;subst h5;refine⟨es++[{key:=kf a,val:=vf w,born:=clock}],clock+1,by simp only[oC,hu,h1,hk.plain,h2,Bool.and_self,cond_true,h3,h4], ?_⟩;have:=hl;simp only[kh]at this⊢;rw[qV hv];simp[this]
 |some v=>
  rw[hv]at h5;obtain⟨j,rfl,x,h6,h7,h8⟩:=h5;have hb:Instr.sameBits 10000 (((es[0+j]?).map (·.key)).getD (kf a)) (kf a)=true:=by
   rw[Nat.zero_add,h6];show Instr.sameBits 10000 x.key (kf a)=true;rw[h7];exact hk.bits a
  refine⟨es.modify (0+j) λx=>{x with key:=kf a,val:=vf w},clock,by simp only[oC,hu,h1,hk.plain,h2,Bool.and_self,cond_true,h3,h4,hb], ?_⟩;have:=h8 w;rwa[Nat.zero_add]
end
attribute [go_sem] yE FQ FR
end Go.aw
end
noncomputable section
namespace Go.aw
variable {e:Env} {ro:Option Nat}
structure yH(e:Env)(st:TypeId)(sz ab:Nat):Prop where
 el:∃el z,e.under st=some (.slice el)/\e.size el=some sz/\e.zero el=some z/\e.bytes el=some ab/\z.cells.toList.length=sz
 pos:0<sz
theorem Ri(h:aa)(st:TypeId)(r:List TypeId)(s x:Value):uD e h (st::r).toArray (some [s,x])=og e h (st::r).toArray s x:=rfl
theorem FU{h:aa}{st:TypeId}{sz ab:Nat}(hE:yH e st sz ab){base:Option Addr}{len cap:Nat}{xb:Option Addr}{n xc:Nat}{new:List Value}(hx:iK h sz n (.slice xb n xc)=some new)(hl:new.length=n*sz):
 og e h #[st,st] (.slice base len cap) (.slice xb n xc)=qE h base len cap sz ab n new:=by
 obtain⟨el,z,h1,h2,h3,h4,h5⟩:=hE.el;have hs:Nat.blt 0 sz=true:=Nat.ble_eq_true_of_le hE.pos;unfold og;simp only[List.getElem?_toArray,List.getElem?_cons_zero,List.getElem?_cons_succ,h1,h2,h3,h4];have hi:pA (.slice el)=false:=rfl;simp only[hi,ue,cond_false,qD,uf,hx,hs,h5,hl,Nat.beq_refl,Bool.and_self,cond_true]
theorem append_nil{h:aa}{st:TypeId}{sz ab:Nat}(hE:yH e st sz ab){xb:Option Addr}{n xc:Nat}{new:List Value}(hx:iK h sz n (.slice xb n xc)=some new)(hl:new.length=n*sz)(hn:0<n)(hb:n*(ab+1)<=1073741824):
 og e h #[st,st] (.slice none 0 0) (.slice xb n xc)=some (.slice (some ⟨h.next,0,none⟩) n n,h.new (.row new true sz)):=by
 rw[FU hE hx hl];unfold qE;have h1:Nat.ble n 0=false:=by
  cases ad:Nat.ble n 0 with
  |false=>rfl
  |true=>have:=Nat.le_of_ble_eq_true ad;omega
 have h2:Nat.ble (n*(ab+1)) 1073741824=true:=Nat.ble_eq_true_of_le hb;simp only[Nat.zero_add,h1,h2,cond_false,cond_true,Nat.beq_refl,Bool.and_self]
theorem FV{h:aa}{st:TypeId}{sz ab:Nat}(hE:yH e st sz ab){xb:Option Addr}{n xc:Nat}{new:List Value}(hx:iK h sz n (.slice xb n xc)=some new)(hl:new.length=n*sz)(hn:0<n){i len:Nat}{cs:List Value}
 (hg:h.get i=some (.row cs true sz)) (hc:cs.length=len*sz) (ae:new.all dL=true) (hb:(len+n)*(ab+1)<=1073741824):
 og e h #[st,st] (.slice (some ⟨i,0,none⟩) len len) (.slice xb n xc)=some (.slice (some ⟨h.next,0,none⟩) (len+n) (len+n),(h.set i none).new (.row (cs++new) true sz)):=by
 rw[FU hE hx hl];unfold qE;have hs:=hE.pos;have h1:Nat.ble (len+n) len=false:=by
  cases ad:Nat.ble (len+n) len with
  |false=>rfl
  |true=>have:=Nat.le_of_ble_eq_true ad;omega
 have h2:Nat.ble ((len+n)*(ab+1)) 1073741824=true:=Nat.ble_eq_true_of_le hb;have h3:gm h ⟨i,0,none⟩ (len*sz)=some cs:=by
  unfold gm;simp only[hg,List.drop_zero,<-hc,List.take_length,Nat.beq_refl,cond_true]
 have h4:Nat.beq sz 0=false:=by
  cases ad:Nat.beq sz 0 with
  |false=>rfl
  |true=>have:=Nat.eq_of_beq_eq_true ad;omega
 have h5:Nat.blt (0+len*sz) cs.length=false:=by
  cases ad:Nat.blt (0+len*sz) cs.length with
  |false=>rfl
  |true=>have:=Nat.le_of_ble_eq_true ad;omega
 simp only[h1,h2,cond_false,cond_true,h3,hg,h4,Nat.beq_refl,h5,Bool.and_false,Bool.or_self,Bool.and_self,ae]
theorem yI{h:aa}{sz n xc i:Nat}{cs:List Value}{wr:Bool}{ah:Nat}(hg:h.get i=some (.row cs wr ah))(hl:cs.length=n*sz):iK h sz n (.slice (some ⟨i,0,none⟩) n xc)=some cs:=by
 simp only[iK,gm,hg,List.drop_zero,<-hl,List.take_length,Nat.beq_refl,cond_true]
def Env.hD(e:Env)(st:TypeId):Option (Nat×Value):=
 match e.under st with
 |some (.slice el)=>match e.size el,e.zero el with
  |some s,some z=>some (s,z)
  |_,_=>none
 |_=>none
def oD(s:Nat):Nat->List (Nat×Value)->Option (List Value)
 |_,[]=>some []
 |i,(j,v)::r=>if j=i/\v.cells.toList.length=s then(oD s (i+1) r).map (v.cells.toList++·)else none
theorem FW{s:Nat}:∀{ps:List (Nat×Value)} {i:Nat} {cs done rest:List Value},oD s i ps=some cs->done.length=i*s->rest.length=ps.length*s->jg (λi=>some (i*s,s)) (done++rest) ps=some (done++cs)
 |[],i,cs,done,rest,h,h1,h2=>by
  simp only[oD,Option.some.injEq]at h;subst h;have:rest=[]:=List.eq_nil_of_length_eq_zero (by simpa using h2);subst this;rfl
 |(j,v)::r,i,cs,done,rest,h,h1,h2=>by
  simp only[oD]at h
  split at h
  . rename_i hc;obtain⟨rfl,hv⟩:=hc;simp only[Option.map_eq_some_iff]at h;obtain⟨cs',h3,rfl⟩:=h;simp only[List.length_cons,Nat.add_mul,Nat.one_mul]at h2;have hle:j*s+s<=(done++rest).length:=by simp only[List.length_append];omega
    simp only[jg,hv,Nat.beq_refl,Nat.ble_eq_true_of_le hle,Bool.and_self,cond_true];have e1:eo (done++rest) (j*s) v.cells.toList=(done++v.cells.toList)++rest.drop s:=by
     unfold eo;rw[<-h1,List.take_left,hv,List.drop_append,List.drop_eq_nil_of_le (by omega)];simp
    rw[e1,FW h3 (by simp only[List.length_append,h1,hv,Nat.add_mul,Nat.one_mul]) (by rw[List.length_drop];omega),List.append_assoc]
  . cases h
theorem FX(zs:List Value)(n:Nat):(fu zs n).length=n:=by simp[fu]
theorem Rj{t:Tr Value}{st n:Nat}{l:List (Nat×Operand)}{s:Nat}{z:Value}{ps:List (Nat×Value)}{cs:List Value}(hz:e.hD st=some (s,z))(af:z.cells.toList.length=s)(hs:0<s)(hn:n*s<=16777216)(hp:fM e t l=some ps)(ai:ps.length=n)(hr:oD s 0 ps=some cs):
 cU e t (.buildSlice st n l.toArray)=some (.row cs true 0,λi=>.slice (some ⟨i,0,none⟩) n n):=by
 unfold Env.hD at hz
 split at hz
 . rename_i el hu
   split at hz
   . rename_i s' z' h1 h2;cases hz;have hb:Nat.blt 0 s=true:=Nat.ble_eq_true_of_le hs;simp only[cU,hu,hp,h1,h2,af,Nat.beq_refl,hb,Nat.ble_eq_true_of_le hn,Bool.and_self,cond_true];have:=FW (s:=s) (done:=[]) (rest:=fu z.cells.toList (n*s)) hr (by simp) (by rw[FX,ai]);simp only[List.nil_append]at this;rw[this]
   . cases hz
 . cases hz
def yJ(e:Env)(t:Tr Value)(st n:Nat)(l:List (Nat×Operand)):Option (bK×(Nat->Value)):=cU e t (.buildSlice st n l.toArray)
def yK(e:Env)(t:Tr Value)(st n:Nat)(l:List (Nat×Operand)):Option (List Value)->Option (bK×(Nat->Value))
 |some cs=>some (.row cs true 0,λi=>.slice (some ⟨i,0,none⟩) n n)
 |none=>yJ e t st n l
def By(e:Env)(t:Tr Value)(st n:Nat)(l:List (Nat×Operand)):Option (Nat×Value)->Option (List (Nat×Value))->Option (bK×(Nat->Value))
 |some (s,z),some ps=>if z.cells.toList.length=s/\0<s/\n*s<=16777216/\ps.length=n then yK e t st n l (oD s 0 ps)else yJ e t st n l
 |_,_=>yJ e t st n l
theorem Rk(t:Tr Value)(st n:Nat)(l:List (Nat×Operand)):cU e t (.buildSlice st n l.toArray)=By e t st n l (e.hD st) (fM e t l):=by
 unfold By
 split
 . rename_i s z ps hz hp
   split
   . rename_i hc;obtain⟨h1,h2,h3,h4⟩:=hc;unfold yK
     split
     . rename_i cs hr;exact Rj hz h1 h2 h3 hp h4 hr
     . rfl
   . rfl
 . rfl
theorem Rm(t:Tr Value)(st n:Nat)(l:List (Nat×Operand))(s:Nat)(z:Value)(ps:List (Nat×Value)):By e t st n l (some (s,z)) (some ps)=if z.cells.toList.length=s/\0<s/\n*s<=16777216/\ps.length=n then yK e t st n l (oD s 0 ps)else yJ e t st n l:=rfl
theorem Rn(t:Tr Value)(st n:Nat)(l:List (Nat×Operand))(cs:List Value):yK e t st n l (some cs)=some (.row cs true 0,λi=>.slice (some ⟨i,0,none⟩) n n):=rfl
theorem Ro(s i:Nat):oD s i []=some []:=rfl
theorem Rp(s i j:Nat)(v:Value)(r:List (Nat×Value)):oD s i ((j,v)::r)=if j=i/\v.cells.toList.length=s then(oD s (i+1) r).map (v.cells.toList++·)else none:=rfl
theorem Rq(t:Tr Value)(ty:TypeId):cU e t (.makeMap ty none)=some (.map [] 0,λi=>.map (some i)):=rfl
attribute [go_sem] Nat.testBit_eq_decide_div_mod_eq Ri Ro Rp Rq Rk Rm Rn
end Go.aw
end
noncomputable section
namespace Go.aw
variable {e:Env} {ro:Option Nat}
def fO(e:Env)(f:FuncId)(args:List Value)(h:aa)(K:Value->aa->Prop):Prop:=(∃fn,e.fn f=some fn)/\∀ρ w (ad:Array Value),Gl e ρ->bJ ρ args ad.toList->bm ρ h w->
 Calls e.P f ad w λen w'=>∃v h' v' ab,K v h'/\en=.returned v'/\aK ab v v'/\bm ab h' w'/\Fr h.next ρ h w ab h' w'
theorem bS.k{f:FuncId}{args:List Value}{h:aa}{v:Value}{h':aa}{K:Value->aa->Prop}(hr:bS e f args h v h')(hk:K v h'):fO e f args h K:=
 ⟨hr.1,λρ w ad hg ha x=>(hr.2 ρ w ad hg ha x).mono λen w' ⟨v',ab,h1,h2,h3,h4⟩=>⟨v,h',v',ab,hk,h1,h2,h3,h4⟩⟩
theorem fO.mono{f:FuncId}{args:List Value}{h:aa}{K K':Value->aa->Prop}(hr:fO e f args h K)(hk:∀v h',K v h'->K' v h'):fO e f args h K':=
 ⟨hr.1,λρ w ad hg ha x=>(hr.2 ρ w ad hg ha x).mono λen w' ⟨v,h',v',ab,h0,h1,h2,h3,h4⟩=>⟨v,h',v',ab,hk _ _ h0,h1,h2,h3,h4⟩⟩
theorem Rs{b:Nat}{ρ:ay}{h:aa}{w:World}(x:bm ρ h w):bm ρ h w.drew/\Fr b ρ h w ρ h w.drew:=
 ⟨⟨x.iw,x.obj,x.sep⟩,⟨Ext.refl _,rfl,rfl,Nat.le_refl _,λ_ _=>rfl,λ_ _ _=>rfl,(Fr.refl b ρ h w).new,λ_ _ h _=>h,λ_ h h'=>absurd h h',(Fr.refl b ρ h w).ba,Nat.le_refl _⟩⟩
def Bz(h:aa)(it:Value)(K:Value->aa->Prop):Prop:=∃r m since seen last es clock,it=.pointer (some ⟨r,0,none⟩)/\h.get r=some (.cD (some m) since seen last)/\h.get m=some (.map es clock)/\(∀x∈es,x.born<since)/\since<=last/\
 ((∀x∈es,seen.contains x.born=true)->K (.tuple #[.bool false]) h)/\∀x∈es,seen.contains x.born=false->K (.tuple #[.bool true,x.key,x.val]) (h.set r (some (.cD (some m) since (seen++[x.born]) clock)))
theorem FY{ρ:ay}{es aC:List MapEntry}(h:aP (eU ρ) es aC):∀y∈aC,∃x∈es,eU ρ x y:=by
 induction h with
 |nil=>intro y hy;cases hy
 |cons h1 _ ih=>
  intro y hy;rcases List.mem_cons.1 hy with rfl|hy
  . exact⟨_,List.mem_cons_self,h1⟩
  . obtain⟨x,hx,hr⟩:=ih y hy;exact⟨x,List.mem_cons_of_mem _ hx,hr⟩
theorem Rt{ρ:ay}{es aC:List MapEntry}(h:aP (eU ρ) es aC):∀x∈es,∃y∈aC,eU ρ x y:=by
 induction h with
 |nil=>intro y hy;cases hy
 |cons h1 _ ih=>
  intro y hy;rcases List.mem_cons.1 hy with rfl|hy
  . exact⟨_,List.mem_cons_self,h1⟩
  . obtain⟨x,hx,hr⟩:=ih y hy;exact⟨x,List.mem_cons_of_mem _ hx,hr⟩
theorem Ru{b:Nat}(P:Program){ρ:ay}{h:aa}{w:World}(x:bm ρ h w){it bh:Value}(hi:aK ρ it bh){K:Value->aa->Prop}(hs:Bz h it K)(ty:TypeId):∃v h',K v h'/\gY b P ρ h w (Instr.next bh false ty) v h':=by
 obtain⟨r,m,since,seen,last,es,clock,rfl,hr,hm,hold,bq,h0,h1⟩:=hs;obtain⟨pl,hp,rfl⟩:=hi.pI;obtain⟨pl',g1,g2,m',g3,g4⟩:=x.obj _ _ hr;rw[hp]at g1;cases g1;obtain⟨aY,bj,bs⟩:=g4.map_some;cases bs;obtain⟨pl',q1,q2,aC,q3,q4⟩:=x.obj _ _ hm;rw[bj]at q1;cases q1;have hz:pl.off+0=0:=by rw[g2]
 rw[hz];have aQ:∀y∈aC.toList,y.born<since:=λy hy=>by
  obtain⟨z,hz,aD⟩:=FY q4 y hy;rw[aD.born];exact hold z hz
 have bt:pl.aW<w.heap.size:=(Array.getElem?_eq_some_iff.1 g3).1;rcases run_next_at (P:=P) w ty pl.aW aY.aW since last seen.toArray aC clock g3 q3 aQ bq with⟨hl,aJ⟩|⟨y,hy,w1,bk,aJ⟩
 . refine⟨_,_,h0 λz hz=> ?_,gY.same x (v':=.tuple #[.bool false]) aJ (aK.kL.2 (.cons (.bool _) .nil))⟩;obtain⟨y,hy,aD⟩:=Rt q4 z hz;have he:leftOf aC seen.toArray=#[]:=Array.eq_empty_of_size_eq_zero hl;unfold leftOf at he;rw[Array.filter_eq_empty_iff]at he;have:=he y (by simpa using hy);rw[aD.born]at this;simpa using this
 . have bl:y∈aC.toList/\seen.contains y.born=false:=by
    unfold leftOf at hy;simp at hy;refine⟨by simpa using hy.1,by simpa using hy.2⟩
   obtain⟨z,hz,aD⟩:=FY q4 y bl.1;have aZ:=h1 z hz (by rw[<-aD.born];exact bl.2);refine⟨_,_,aZ, ?_⟩;have hw:bm ρ h w1/\Fr b ρ h w ρ h w1:=by
    rcases bk with rfl|rfl
    . exact⟨x,Fr.refl _ _ _ _⟩
    . exact Rs x
   have bu:pl.aW<w1.heap.size:=by rcases bk with rfl|rfl<;>exact bt
   obtain⟨k1,k2⟩:=sA (b:=b) (o:=.mapIter (some aY.aW) since (seen.toArray.push y.born) clock) (ao':=.cD (some m) since (seen++[z.born]) clock) hw.1 hr rfl hp rfl
    ⟨g2,some aY.aW,by rw[pE _ _ _ bu,aD.born];simp,.map bj⟩ rfl
   exact⟨.tuple #[.bool true,y.key,y.val],_,ρ,aJ,aK.kL.2 (.cons (.bool _) (.cons (by rw[aD.key];exact oi aD.plain) (.cons aD.val .nil))),k1,hw.2.trans k2⟩
def jH(e:Env)(ro:Option Nat)(op:Op)(t:Tr Value)(ds:List Deferred)(h:aa)(K:Kt):Prop:=
 match op with
 |.call c=>match c.callee with
  |.value f=>aG (qQ (au e t f) (df e t c.args.toList)) λp=>fO e p.1 p.2 h λv h'=>K v ds h'
  |_=>bG e ro (.call c) t ds h K
 |.next it s=>bG e ro (.next it s) t ds h K\/(s=false/\aG (au e t it) λv=>Bz h v λv h=>K v ds h)
 |op=>bG e ro op t ds h K
theorem bG.Rv{o:Oper}{t:Tr Value}{n:Nat}{ds:List Deferred}{h:aa}{K:Kt}(hs:bG e ro o.op t ds h K)(ai:dB o.dst n):mz e ro o ⟨t,n,ds,h⟩ λs=>∃v ds h,K v ds h/\s=⟨bH o.dst v t,n,ds,h⟩:=
 hs.yr ai λv ds h hk=>⟨v,ds,h,hk,rfl⟩
theorem bG.wp(he:e.Ok){o:Oper}{t:Tr Value}{n:Nat}{ds:List Deferred}{h:aa}{K:Kt}(hs:bG e ro o.op t ds h K)(ai:dB o.dst n){ρ:ay}{a:Act}{w:World}(x:dw e ρ ⟨t,n,ds,h⟩ a w)
 {ae:Option Nat} (ao:iy ρ ro ae) (N:Nat) {next:Act->World->Prop} {Q:Exit->Act->World->Prop} (av:∀v aF h' a' w' ab,K v aF h'->dw e ab ⟨bH o.dst v t,n,aF,h'⟩ a' w'->Fr h.next ρ h w ab h' w'->next a' w'):
 o.wpIn (FF ae) N e.P a w next Q:=by
 obtain⟨cf,s',h1,h2,v,aF,h',h3,rfl⟩:=(hs.Rv ai).cf;exact wm he h1 yp h2 x ao N λa' w' ab x' f'=>av v aF h' a' w' ab h3 x' f'
theorem Rw{h:aa}{t:Tr Value}{c:Call}{f:Operand}{p:FuncId×List Value}(hc:c.callee=.value f)(hp:qQ (au e t f) (df e t c.args.toList)=some p):aL e h t (.call c)=some (.enter p.1 p.2 h):=by
 simp only[qQ]at hp;simp only[aL,mw,hc]
 split at hp
 . rename_i fv args h4 h5
   split at hp
   . rename_i g az cap h6;cases hp;simp only[h4,h5,h6]
   . cases hp
 . cases hp
theorem jH.wp(he:e.Ok){o:Oper}{t:Tr Value}{n:Nat}{ds:List Deferred}{h:aa}{K:Kt}(hs:jH e ro o.op t ds h K)(ai:dB o.dst n){ρ:ay}{a:Act}{w:World}(x:dw e ρ ⟨t,n,ds,h⟩ a w)
 {ae:Option Nat} (ao:iy ρ ro ae) (N:Nat) {next:Act->World->Prop} {Q:Exit->Act->World->Prop} (av:∀v aF h' a' w' ab,K v aF h'->dw e ab ⟨bH o.dst v t,n,aF,h'⟩ a' w'->Fr h.next ρ h w ab h' w'->next a' w'):
 o.wpIn (FF ae) N e.P a w next Q:=by
 have ba:bG e ro o.op t ds h K->o.wpIn (FF ae) N e.P a w next Q:=λhs=>hs.wp he ai x ao N av
 cases aI:o.op with
 |call c=>
  rw[aI]at hs ba;unfold jH at hs;simp only at hs
  split at hs
  . rename_i f hf;obtain⟨⟨g,args⟩,h1,⟨fn,aX⟩,aR⟩:=hs;have hr:aL e h t o.op=some (.enter g args h):=by rw[aI];exact Rw (h:=h) hf h1
    have key:=EV he (ds:=a.defers) x.g x.t x.m hr;obtain⟨_,ad,k1,k2⟩:=key;have ha:(Act.mk a.tmps a.defers)=a:=rfl;rw[ha]at k2;have aN:Oper.semAt (FF ae).round a.eval o=execOp a.eval o:=Oper.semAt_eq _ _ _ λc' aS=>by rw[aI]at aS;cases aS
    refine⟨λf _=>trivial, ?_⟩;rw[aN,k2 fn aX,Oper.uponIn_enter];refine⟨AG _ _,EW ((aR ρ w ad x.g k1 x.m).mono ?_)⟩;rintro en w' ⟨v,h',v',ab,hk,rfl,q1,q2,q3⟩;obtain⟨p1,p2⟩:=ng (x.with q2 q3) (sN (s:=⟨t,n,ds,h'⟩) (v:=v) ai) q1;exact av v ds h' _ _ _ hk p1 q3
  . exact ba hs
 |next it s=>
  rw[aI]at hs ba;rcases hs with hs|⟨rfl,v,hv,hn⟩
  . exact ba hs
  . have bo:=kM x.g x.t hv a.defers;have aN:Oper.semAt (FF ae).round a.eval o=execOp a.eval o:=Oper.semAt_eq _ _ _ λc' aS=>by rw[aI]at aS;cases aS
    have ha:(Act.mk a.tmps a.defers)=a:=rfl;rw[ha]at bo;obtain⟨u,h',hk,bw⟩:=Ru (b:=h.next) e.P x.m bo hn o.type;obtain⟨v',w',ab,k1,k2,k3,k4⟩:=ed.gives bw;have k1:(execOp a.eval o).run e.P w=.ok (.value v') w':=by
     obtain⟨dst,op,ty,pos,af,g⟩:=o;simp only at aI;subst aI;exact k1
    refine⟨λf _=>trivial, ?_⟩;rw[aN,k1,Oper.uponIn_value];obtain⟨p1,p2⟩:=ng (x.with k3 k4) (sN (s:=⟨t,n,ds,h'⟩) (v:=u) ai) k2;exact av u ds h' _ _ _ hk p1 k4
 |_=>rw[aI]at hs ba;exact ba hs
def oE(e:Env)(ro:Option Nat)(ops:List Oper):List Oper->Tr Value->Nat->List Deferred->aa->(aE->Prop)->Prop
 |[],t,n,ds,h,K=>K ⟨t,n,ds,h⟩
 |o::r,t,n,ds,h,K=>dB o.dst n/\match cY ops ⟨t,n,ds,h⟩ o with
  |none=>False
  |some true=>jH e ro o.op t ds h λv ds h=>oE e ro ops r (bH o.dst v t) n ds h K
  |some false=>oE e ro ops r (bH o.dst undef t) n ds h K
theorem Rx(he:e.Ok){ops:Array Oper}{n:Nat}{K:aE->Prop}(ae:Option Nat)(N:Nat)(Q:Exit->Act->World->Prop):∀(l:List Oper) (k:Nat) (t:Tr Value) (ds:List Deferred) (h:aa) (ρ:ay) (a:Act) (w:World),ops.toList.drop k=l->oE e ro ops.toList l t n ds h K->dw e ρ ⟨t,n,ds,h⟩ a w->iy ρ ro ae->
 (∀s' a' w' ab,K s'->dw e ab s' a' w'->Fr h.next ρ h w ab s'.h w'->Q .normal a' w')->wpOpsIn (FF ae) N e.P ops Q ((List.range ops.size).drop k) a w:=by
 intro l
 induction l with
 |nil=>
  intro k t ds h ρ a w hl hs x _ hQ;have hk:ops.size<=k:=by
   have:=congrArg List.length hl;simp at this;omega
  rw[List.drop_eq_nil_of_le (by simpa using hk)];exact hQ _ a w ρ hs x (Fr.refl _ _ _ _)
 |cons o r ih=>
  intro k t ds h ρ a w hl hs x ao hQ;have hk:k<ops.size:=by
   rcases Nat.lt_or_ge k ops.size with h|h
   . exact h
   . rw[List.drop_eq_nil_of_le (by simpa using h)]at hl;cases hl
  have bx:ops[k]? =some o:=by
   have:(ops.toList.drop k)[0]? =some o:=by rw[hl];rfl
   simpa[List.getElem?_drop]using this
  have hr:ops.toList.drop (k+1)=r:=by rw[<-List.drop_drop,hl];rfl
  have aO:(List.range ops.size).drop k=k::(List.range ops.size).drop (k+1):=by
   rw[List.drop_eq_getElem_cons (by simpa using hk)];simp
  rw[aO];simp only[oE]at hs;obtain⟨ai,hs⟩:=hs;simp only[wpOpsIn,bx];cases hw:cY ops.toList ⟨t,n,ds,h⟩ o with
  |none=>simp[hw]at hs
  |some b=>
   cases b with
   |true=>
    simp only[hw]at hs;rw[pK hw x,if_pos rfl];refine hs.wp he ai x ao N λv aF h' a1 w1 aB hk x1 f1=> ?_;exact ih (k+1) _ aF h' aB a1 w1 hr hk x1 (ao.mono f1.ext) λs2 a2 w2 aT hK x2 f2=>hQ s2 a2 w2 aT hK x2 (f1.trans (f2.mono f1.next))
   |false=>
    simp only[hw]at hs;rw[pK hw x,if_neg (by simp)];refine⟨λf _=>trivial, ?_⟩;obtain⟨p1,_⟩:=ng x (sN (s:=⟨t,n,ds,h⟩) (v:=undef) ai) (wk _);exact ih (k+1) _ ds h ρ _ w hr hs p1 ao hQ
def WR(e:Env)(ro:Option Nat)(c:Code)(s:aE)(K:bn->aE->Prop):Prop:=∀ρ a w ae n Q,dw e ρ s a w->iy ρ ro ae->
 (∀x s' a' w' ab,K x s'->dw e ab s' a' w'->Fr s.h.next ρ s.h w ab s'.h w'->Q x.to a' w')->c.wpIn (FF ae) n e.P Q a w
theorem ov.wr{c:Code}{s s':aE}{x:bn}{K:bn->aE->Prop}(h:ov e ro c s x s')(hk:K x s'):WR e ro c s K:=
 λρ a w ae n Q X ao hQ=>h ρ a w ae n Q X ao λa' w' ab x' f'=>hQ x s' a' w' ab hk x' f'
theorem WR.mono{c:Code}{s:aE}{K K':bn->aE->Prop}(h:WR e ro c s K)(hk:∀x s,K x s->K' x s):WR e ro c s K':=
 λρ a w ae n Q X ao hQ=>h ρ a w ae n Q X ao λx s' a' w' ab h1 x' f'=>hQ x s' a' w' ab (hk _ _ h1) x' f'
theorem WR.skip{s:aE}{K:bn->aE->Prop}(h:K .normal s):WR e ro .skip s K:=λρ a w ae n Q X ao hQ=>wpIn_skip (hQ .normal s a w ρ h X (Fr.refl _ _ _ _))
theorem WR.exit{s:aE}{id:Nat}{K:bn->aE->Prop}(h:K (.exit id) s):WR e ro (.exit id) s K:=λρ a w ae n Q X ao hQ=>wpIn_exit (hQ (.exit id) s a w ρ h X (Fr.refl _ _ _ _))
theorem WR.ret{s:aE}{K:bn->aE->Prop}(h:K .ret s):WR e ro .ret s K:=λρ a w ae n Q X ao hQ=>wpIn_ret (hQ .ret s a w ρ h X (Fr.refl _ _ _ _))
theorem WR.seq{p q:Code}{s:aE}{K:bn->aE->Prop}(h:WR e ro p s λx s1=>match x with|.normal=>WR e ro q s1 K|x=>K x s1):WR e ro (.seq p q) s K:=by
 intro ρ a w ae n Q X ao hQ;refine wpIn_seq (h ρ a w ae n _ X ao λx s1 a1 w1 aB k q1 f1=> ?_);cases x with
 |normal=>exact k aB a1 w1 ae n Q q1 (ao.mono f1.ext) λx s2 a2 w2 aT k2 q2 f2=>hQ x s2 a2 w2 aT k2 q2 (f1.trans (f2.mono f1.next))
 |exit i=>exact hQ (.exit i) s1 a1 w1 aB k q1 f1
 |ret=>exact hQ .ret s1 a1 w1 aB k q1 f1
theorem WR.cond{c:Operand}{p q:Code}{s:aE}{K:bn->aE->Prop}(v:Bool)(hv:au e s.t c=some (.bool v))(ht:v=true->WR e ro p s K)(hf:v=false->WR e ro q s K):WR e ro (.cond c p q) s K:=by
 intro ρ a w ae n Q X ao hQ;cases v with
 |true=>exact wpIn_cond_true (kM X.g X.t hv a.defers).pH (ht rfl ρ a w ae n Q X ao hQ)
 |false=>exact wpIn_cond_false (kM X.g X.t hv a.defers).pH (hf rfl ρ a w ae n Q X ao hQ)
theorem WR.block{id:Nat}{c:Code}{s:aE}{K:bn->aE->Prop}(h:WR e ro c s λx s1=>match x with|.exit i=>if i=id then K .normal s1 else K (.exit i) s1|x=>K x s1):WR e ro (.block id c) s K:=by
 intro ρ a w ae n Q X ao hQ;refine wpIn_block (h ρ a w ae n _ X ao λx s1 a1 w1 aB k q1 f1=> ?_);cases x with
 |normal=>exact hQ .normal s1 a1 w1 aB k q1 f1
 |ret=>exact hQ .ret s1 a1 w1 aB k q1 f1
 |exit i=>
  show Exit.inBlock _ Q (.exit i) a1 w1;by_cases bb:i=id
  . subst bb;simp only[if_true]at k;simp only[Exit.inBlock,if_true];exact hQ .normal s1 a1 w1 aB k q1 f1
  . simp only[bb,if_false]at k;simp only[Exit.inBlock,bb,if_false];exact hQ (.exit i) s1 a1 w1 aB k q1 f1
theorem WR.ops(he:e.Ok){id:Nat}{ops:Array Oper}{s:aE}{K:bn->aE->Prop}(h:oE e ro ops.toList ops.toList s.t s.n s.ds s.h (K .normal)):WR e ro (.region id ops false) s K:=by
 intro ρ a w ae n Q X ao hQ;refine wpIn_region ?_;have:=Rx he ae n Q ops.toList 0 s.t s.ds s.h ρ a w rfl h X ao λs' a' w' ab k x' f'=>hQ .normal s' a' w' ab k x' f';simpa using this
theorem WR.draw(he:e.Ok)(bc:e.P.follows .mixedOrders=true){id:Nat}{ops:Array Oper}{s:aE}{K:bn->aE->Prop}(h:mA e ro ops.toList s (K .normal)):WR e ro (.region id ops true) s K:=by
 obtain⟨h1,h2⟩:=h;obtain⟨dM,x,h3,h4,h5,h6⟩:=h2.dM;exactλρ a w ae n Q X ao hQ=>Fj he bc h3 yp ro ops s h1 x h4 h5 ρ a w ae n Q id X ao λa' w' ab x' f'=>hQ .normal _ a' w' ab h6 x' f'
theorem WR.loop{c:Code}{K:bn->aE->Prop}(I:Nat->aE->Prop)(hI:∀j s,I j s->WR e ro c s λx s1=>match x with|.normal=>∃j',j'<j/\I j' s1|x=>K x s1)(j:Nat)(s:aE)(hs:I j s):WR e ro (.loop c) s K:=by
 intro ρ a w ae n Q X ao hQ;have key:∀(k j:Nat) (s:aE),j<k->I j s->∀(ρ:ay) (a:Act) (w:World),dw e ρ s a w->iy ρ ro ae->(∀x s' a' w' ab,K x s'->dw e ab s' a' w'->Fr s.h.next ρ s.h w ab s'.h w'->Q x.to a' w')->c.roundsIn (FF ae) n e.P Q k a w:=by
  intro k
  induction k with
  |zero=>intro j s hj;omega
  |succ k ih=>
   intro j s hj hs ρ a w X ao hQ;rw[roundsIn_succ];refine hI j s hs ρ a w ae n _ X ao λx s1 a1 w1 aB h1 q1 f1=> ?_;cases x with
   |normal=>
    obtain⟨j',bF,bz⟩:=h1;exact ih j' s1 (by omega) bz aB a1 w1 q1 (ao.mono f1.ext) λx s2 a2 w2 aT k2 q2 f2=>hQ x s2 a2 w2 aT k2 q2 (f1.trans (f2.mono f1.next))
   |exit i=>exact hQ (.exit i) s1 a1 w1 aB h1 q1 f1
   |ret=>exact hQ .ret s1 a1 w1 aB h1 q1 f1
 exact wpIn_loop_rounds (j+1) (key (j+1) j s (by omega) hs ρ a w X ao hQ)
theorem fO.of(he:e.Ok)(aU:Idle e){f:FuncId}{fn:Func}{c:Code}{args:List Value}{h:aa}{K:Value->aa->Prop}(aX:e.fn f=some fn)(hb:fn.body=some c)
 (hq:WR e none c {t:=gX args,n:=args.length+(fn.ntmps-args.length),ds:=[],h} (pQ e fn.results.toList K)):fO e f args h K:=by
 refine⟨⟨fn,aX⟩,λρ w ad hg ha x=> ?_⟩;have hl:args.length=ad.size:=by simpa using ha.length
 have bA:dw e ρ {t:=gX args,n:=args.length+(fn.ntmps-args.length),ds:=[],h} {tmps:=ad++Array.replicate (fn.ntmps-ad.size) undef,defers:=[]} w:=
  ⟨hg,EZ ha fn.ntmps,.nil,x⟩
 have out:∀s a' w' ab,(∃h1 vs,lu e s.ds s.h=some h1/\iv e {s with h:=h1} fn.results.toList=some vs/\K (kg vs) h1)->dw e ab s a' w'->Fr h.next ρ h w ab s.h w'->
  LeavesInM Fence.wide 0 e.P fn a'.tmps (λen w'=>∃v h' v' ab,K v h'/\en=.returned v'/\aK ab v v'/\bm ab h' w'/\Fr h.next ρ h w ab h' w') a'.defers .returning w':=by
  rintro s a' w' ab ⟨h2,vs,bB,bD,hk⟩ x' f';refine E1 he aU 0 bB x'.d x'.m λw2 m2 f2=> ?_;have x2:dw e ab {s with h:=h2} a' w2:=⟨x'.g,x'.t,x'.d,m2⟩;obtain⟨aV,q1,q2⟩:=AI he x2 bD;have hm:(fn.results.mapM (sF a'.tmps)).run e.P w2=.ok aV.toArray w2:=by
   rw[Array.mapM_eq_mapM_toList,Sem.run_map,q1];rfl
  have bf:Fr h.next ρ h w ab h2 w2:=f'.trans (f2.mono f'.next);have bg:(results fn a'.tmps).run e.P w2=.ok (if h:aV.toArray.size=1 then aV.toArray[0]else .tuple aV.toArray) w2:=by
   rw[E0,Sem.run_bind,hm];rfl
  refine⟨_,bg,kg vs,h2,_,ab,hk,rfl, ?_,m2,bf⟩
  match vs,aV,q2 with
  |[u],[u'],.cons hu _=>simpa[kg]using hu
  |[],[],_=>exact aK.kL.2 .nil
  |_::_::_,_::_::_,q2=>
   rw[dif_neg (by simp)];exact aK.kL.2 (by simpa using q2)
 rw[<-callsIn_wide (n:=0)];refine callsIn_of_wp_marks (he.fn f fn aX).1 hb trivial ?_;refine hq ρ _ w none 0 (bodyPostM Fence.wide 0 e.P fn λen w'=>∃v h' v' ab,K v h'/\en=.returned v'/\aK ab v v'/\bm ab h' w'/\Fr h.next ρ h w ab h' w') bA .none λx s a' w' ab hk x' f'=> ?_;cases x with
 |normal=>exact out s a' w' ab hk.2 x' f'
 |ret=>exact out s a' w' ab hk.2 x' f'
 |exit id=>exact absurd rfl (hk.1 id)
end Go.aw
end

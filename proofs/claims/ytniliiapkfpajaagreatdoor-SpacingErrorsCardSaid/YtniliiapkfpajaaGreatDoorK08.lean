/- Parts of a proof. -/
import Derived.Test.YtniliiapkfpajaaGreatDoorK06
set_option linter.all false
set_option maxRecDepth 100000
noncomputable section
open Go Go.aD Go.Proofs
namespace Go.Sp
def dG{t:TypeId}(h:(match E.under t with|some d=>jH d|none=>false)=true):∃d,E.under t=some d/\jH d=true:=by
 cases hd:E.under t with
 |none=>rw[hd]at h;cases h
 |some d=>rw[hd]at h;exact⟨d,rfl,h⟩
def tP:E.zero 3=some (.int .i64 0):=an
def F7:E.zero 4=some (.bool false):=an
def F8:E.elem 22=some 1:=an
def ya:E.elem 30=some 1:=an
def yb:E.ap 30=some (1,16):=an
def US(ps:List (Nat×Value)):mM E 33 (some ps)=rQ E 33 ps (E.zero 33):=xM ps an (dG an)
def UT(ps:List (Nat×DV)):eo E 33 ps=fC E 33 ps (E.zero 33):=gE ps an (dG an)
def UU(ps:List (Nat×DV)):eo E 39 ps=fC E 39 ps (E.zero 39):=gE ps an (dG an)
def rY:E.elem 42=some 4:=an
def rZ:E.ap 42=some (4,56):=an
def UW(ps:List (Nat×DV)):eo E 44 ps=fC E 44 ps (E.zero 44):=gE ps an (dG an)
def UX(ps:List (Nat×DV)):eo E 57 ps=fC E 57 ps (E.zero 57):=gE ps an (dG an)
def F9:E.elem 82=some 2:=an
def UY(ps:List (Nat×DV)):eo E 85 ps=fC E 85 ps (E.zero 85):=gE ps an (dG an)
def UZ(ps:List (Nat×DV)):eo E 87 ps=fC E 87 ps (E.zero 87):=gE ps an (dG an)
def U0(ps:List (Nat×DV)):eo E 94 ps=fC E 94 ps (E.zero 94):=gE ps an (dG an)
def U1(ps:List (Nat×DV)):eo E 96 ps=fC E 96 ps (E.zero 96):=gE ps an (dG an)
def vI:E.elem 100=some 1:=an
def vJ:E.ap 100=some (1,8):=an
def U2(ps:List (Nat×DV)):eo E 136 ps=fC E 136 ps (E.zero 136):=gE ps an (dG an)
def By:E.elem 155=some 1:=an
def Ga:E.ap 155=some (1,8):=an
def U3(ps:List (Nat×DV)):eo E 165 ps=fC E 165 ps (E.zero 165):=gE ps an (dG an)
def U4(ps:List (Nat×DV)):eo E 191 ps=fC E 191 ps (E.zero 191):=gE ps an (dG an)
def U5(ps:List (Nat×DV)):eo E 207 ps=fC E 207 ps (E.zero 207):=gE ps an (dG an)
def U6(ps:List (Nat×DV)):eo E 210 ps=fC E 210 ps (E.zero 210):=gE ps an (dG an)
def U7(ps:List (Nat×DV)):eo E 229 ps=fC E 229 ps (E.zero 229):=gE ps an (dG an)
def U8(ps:List (Nat×DV)):eo E 236 ps=fC E 236 ps (E.zero 236):=gE ps an (dG an)
def Gb:E.zero 247=some (.agg #[.int .i64 0,.int .i64 0,.int .i64 0]):=an
def U9(ps:List (Nat×Value)):mM E 247 (some ps)=rQ E 247 ps (E.zero 247):=xM ps an (dG an)
def Va(ps:List (Nat×DV)):eo E 247 ps=fC E 247 ps (E.zero 247):=gE ps an (dG an)
def Gc:E.zero 253=some (.agg #[.int .u64 0,.int .u64 0,.int .u64 0,.int .u64 0,.int .u64 0,.int .u64 0,.int .u64 0,.int .u64 0]):=an
def Vb(ps:List (Nat×DV)):eo E 253 ps=fC E 253 ps (E.zero 253):=gE ps an (dG an)
def Vc(ps:List (Nat×DV)):eo E 256 ps=fC E 256 ps (E.zero 256):=gE ps an (dG an)
def Vd(ps:List (Nat×DV)):eo E 261 ps=fC E 261 ps (E.zero 261):=gE ps an (dG an)
def vK:E.elem 276=some 2:=an
def Gd:E.ap 276=some (2,32):=an
def Ve(ps:List (Nat×DV)):eo E 280 ps=fC E 280 ps (E.zero 280):=gE ps an (dG an)
def Vf(ps:List (Nat×DV)):eo E 285 ps=fC E 285 ps (E.zero 285):=gE ps an (dG an)
def Vg(ps:List (Nat×Value)):mM E 314 (some ps)=rQ E 314 ps (E.zero 314):=xM ps an (dG an)
def Vh(ps:List (Nat×DV)):eo E 336 ps=fC E 336 ps (E.zero 336):=gE ps an (dG an)
def Vi(ps:List (Nat×Value)):mM E 368 (some ps)=rQ E 368 ps (E.zero 368):=xM ps an (dG an)
attribute [go_sem] tP F7 F8 ya yb US UT UU rY rZ UW UX F9 UY UZ U0 U1 vI vJ U2 By Ga U3 U4 U5 U6 U7 U8 Gb U9 Va Gc Vb Vc Vd vK Gd Ve Vf Vg Vh Vi
def Vj(n:Int):rU E 3 219 (.int .i64 n)=some (.int .u64 (IntKind.wrap .u64 n)):=an
def Vk(n:Int):rU E 3 5 (.int .i64 n)=some (.int .u8 (IntKind.wrap .u8 n)):=an
def Vl(n:Int):rU E 5 3 (.int .u8 n)=some (.int .i64 (IntKind.wrap .i64 n)):=an
attribute [go_sem] Vj Vk Vl
def Aj:E.fn 2=some Tryz.f2:=an
def Vm:E.fn 3=some Tryz.f3:=an
def Vn:E.ld 3=some none/\E.size 3=some 1/\E.ld 4=some none/\E.size 4=some 1/\E.ld 5=some none/\E.ld 9=some none/\E.size 9=some 1/\E.ld 22=some none/\E.gB 22=some (1,.int .u8 0)/\E.ld 23=some none/\E.elem 23=some 4/\E.ld 24=some none/\E.elem 24=some 5/\E.ld 26=some (some 5)/\E.off 26 0=some 0/\E.off 26 1=some 1/\E.off 26 2=some 2/\E.off 26 3=some 3/\E.off 26 4=some 4/\E.ld 28=some (some 8)/\E.off 28 0=some 0/\E.off 28 1=some 5/\E.off 28 2=some 6/\E.ld 30=some none/\E.size 30=some 1/\E.gB 30=some (1,.string ⟨#[]⟩)/\E.ld 31=some none/\E.size 31=some 1/\E.elem 31=some 3/\E.gB 31=some (3,.agg #[.int .i64 0,.int .i64 0,.int .i64 0])/\E.ld 33=some (some 2)/\E.size 33=some 2/\E.zero 33=some (.agg #[.slice none 0 0,.int .i64 0])/\E.place 33 0=some (0,1)/\E.place 33 1=some (1,1)/\E.off 33 0=some 0/\E.off 33 1=some 1/\E.ld 34=some none/\E.size 34=some 1/\E.elem 34=some 7:=by and_intros<;>kernel_rfl
def Vo:E.ap 34=some (7,112)/\E.gB 34=some (7,.agg #[.string ⟨#[]⟩,.int .i64 0,.string ⟨#[]⟩,.slice none 0 0,.string ⟨#[]⟩,.slice none 0 0,.int .i64 0])/\E.ld 35=some none/\E.size 35=some 1/\E.elem 35=some 13/\E.ap 35=some (13,160)/\E.gB 35=some (13,.agg #[.string ⟨#[]⟩,.int .i64 0,.slice none 0 0,.slice none 0 0,.int .i64 0,.bool false,.int .i64 0,.slice none 0 0,.bool false,.int .i64 0,.int .i64 0,.int .i64 0,.int .i64 0])/\E.ld 36=some none/\E.size 36=some 1/\E.elem 36=some 4/\E.ap 36=some (4,64)/\E.gB 36=some (4,.agg #[.slice none 0 0,.int .i64 0,.slice none 0 0,.int .i64 0])/\E.ld 37=some none/\E.size 37=some 1/\E.elem 37=some 9/\E.ap 37=some (9,104)/\E.gB 37=some (9,.agg #[.int .i64 0,.int .i64 0,.int .i64 0,.int .i64 0,.int .i64 0,.int .i64 0,.slice none 0 0,.slice none 0 0,.int .i64 0])/\E.ld 39=some (some 9)/\E.size 39=some 9/\E.zero 39=some (.agg #[.slice none 0 0,.slice none 0 0,.int .i64 0,.slice none 0 0,.slice none 0 0,.slice none 0 0,.int .i64 0,.slice none 0 0,.slice none 0 0])/\E.place 39 0=some (0,1)/\E.place 39 1=some (1,2)/\E.place 39 2=some (3,1)/\E.place 39 3=some (4,1)/\E.off 39 0=some 0/\E.off 39 1=some 1/\E.off 39 2=some 3/\E.off 39 3=some 4/\E.off 39 4=some 5/\E.off 39 5=some 6/\E.off 39 6=some 7/\E.off 39 7=some 8/\E.ld 40=some none/\E.size 40=some 1/\E.ld 41=some none/\E.ld 42=some none/\E.size 42=some 1/\E.gB 42=some (4,.agg #[.int .i64 0,.int .i64 0,.string ⟨#[]⟩,.slice none 0 0])/\E.ld 44=some (some 2)/\E.size 44=some 2:=by and_intros<;>kernel_rfl
def Vp:E.zero 44=some (.agg #[.slice none 0 0,.slice none 0 0])/\E.place 44 0=some (0,1)/\E.off 44 0=some 0/\E.off 44 1=some 1/\E.ld 48=some none/\E.size 48=some 1/\E.zero 48=some (.int .i64 0)/\E.elem 51=some 1/\E.gB 51=some (1,.bool false)/\E.ld 57=some (some 4)/\E.size 57=some 4/\E.zero 57=some (.agg #[.int .i64 0,.int .i64 0,.string ⟨#[]⟩,.slice none 0 0])/\E.place 57 0=some (0,1)/\E.place 57 1=some (1,1)/\E.place 57 2=some (2,1)/\E.off 57 0=some 0/\E.off 57 1=some 1/\E.off 57 2=some 2/\E.off 57 3=some 3/\E.ld 79=some none/\E.ld 82=some none/\E.size 82=some 1/\E.ap 82=some (2,16)/\E.gB 82=some (2,.agg #[.bool false,.int .i64 0])/\E.ld 83=some none/\E.size 83=some 1/\E.elem 83=some 3/\E.gB 83=some (3,.agg #[.int .i64 0,.int .i64 0,.int .i64 0])/\E.ld 85=some (some 5)/\E.size 85=some 5/\E.zero 85=some (.agg #[.bool false,.int .i64 0,.int .i64 0,.int .i64 0,.int .i64 0])/\E.place 85 1=some (1,1)/\E.place 85 2=some (2,1)/\E.place 85 3=some (3,1)/\E.place 85 4=some (4,1)/\E.off 85 0=some 0/\E.off 85 1=some 1/\E.off 85 2=some 2/\E.off 85 3=some 3/\E.off 85 4=some 4:=by and_intros<;>kernel_rfl
def Vq:E.ld 87=some (some 13)/\E.size 87=some 13/\E.zero 87=some (.agg #[.string ⟨#[]⟩,.int .i64 0,.slice none 0 0,.slice none 0 0,.int .i64 0,.bool false,.int .i64 0,.slice none 0 0,.bool false,.int .i64 0,.int .i64 0,.int .i64 0,.int .i64 0])/\E.place 87 0=some (0,1)/\E.place 87 1=some (1,1)/\E.place 87 2=some (2,1)/\E.place 87 3=some (3,2)/\E.off 87 0=some 0/\E.off 87 1=some 1/\E.off 87 2=some 2/\E.off 87 3=some 3/\E.off 87 4=some 5/\E.off 87 5=some 6/\E.off 87 6=some 7/\E.off 87 7=some 8/\E.ld 92=some none/\E.size 92=some 1/\E.elem 92=some 5/\E.gB 92=some (5,.agg #[.int .i64 0,.int .i64 0,.int .i64 0,.int .i64 0,.int .i64 0])/\E.ld 94=some (some 7)/\E.size 94=some 7/\E.zero 94=some (.agg #[.string ⟨#[]⟩,.int .i64 0,.string ⟨#[]⟩,.slice none 0 0,.string ⟨#[]⟩,.slice none 0 0,.int .i64 0])/\E.place 94 0=some (0,1)/\E.place 94 1=some (1,1)/\E.place 94 2=some (2,1)/\E.place 94 3=some (3,1)/\E.place 94 4=some (4,1)/\E.place 94 5=some (5,2)/\E.off 94 0=some 0/\E.off 94 1=some 1/\E.off 94 2=some 2/\E.off 94 3=some 3/\E.off 94 4=some 4/\E.off 94 5=some 5/\E.ld 96=some (some 5)/\E.size 96=some 5/\E.zero 96=some (.agg #[.int .i64 0,.int .i64 0,.int .i64 0,.int .i64 0,.int .i64 0])/\E.place 96 0=some (0,1)/\E.place 96 1=some (1,1)/\E.place 96 2=some (2,1):=by and_intros<;>kernel_rfl
def Vr:E.place 96 3=some (3,1)/\E.place 96 4=some (4,1)/\E.off 96 0=some 0/\E.off 96 1=some 1/\E.off 96 2=some 2/\E.off 96 3=some 3/\E.off 96 4=some 4/\E.ld 100=some none/\E.size 100=some 1/\E.zero 100=some (.slice none 0 0)/\E.gB 100=some (1,.int .i64 0)/\E.ld 136=some (some 2)/\E.size 136=some 2/\E.zero 136=some (.agg #[.bool false,.int .i64 0])/\E.place 136 0=some (0,1)/\E.place 136 1=some (1,1)/\E.off 136 0=some 0/\E.off 136 1=some 1/\E.ld 148=some (some 4)/\E.off 148 0=some 0/\E.off 148 1=some 1/\E.off 148 2=some 2/\E.off 148 3=some 3/\E.ld 151=some (some 5)/\E.off 151 0=some 0/\E.off 151 1=some 1/\E.off 151 2=some 2/\E.off 151 3=some 3/\E.off 151 4=some 4/\E.gB 155=some (1,.int .u64 0)/\E.zero 165=some (.agg #[.slice none 0 0,.slice none 0 0,.int .i64 0,.slice none 0 0,.slice none 0 0,.slice none 0 0,.int .i64 0,.slice none 0 0,.slice none 0 0,.int .u64 0,.slice none 0 0,.int .i64 0,.slice none 0 0,.slice none 0 0])/\E.place 165 0=some (0,9)/\E.place 165 1=some (9,1)/\E.place 165 2=some (10,1)/\E.place 165 4=some (12,1)/\E.off 165 0=some 0/\E.off 165 1=some 9/\E.off 165 2=some 10/\E.off 165 3=some 11/\E.off 165 4=some 12:=by and_intros<;>kernel_rfl
def Vs:E.off 165 5=some 13/\E.ld 169=some none/\E.ld 170=some none/\E.size 170=some 1/\E.zero 170=some (.map none)/\E.ld 181=some none/\E.ld 188=some none/\E.size 188=some 1/\E.zero 188=some (.nilFunc)/\E.ld 189=some none/\E.zero 191=some (.agg #[.slice none 0 0,.slice none 0 0,.int .i64 0,.slice none 0 0,.slice none 0 0,.slice none 0 0,.int .i64 0,.slice none 0 0,.slice none 0 0,.int .i64 0,.nilFunc])/\E.place 191 0=some (0,9)/\E.place 191 1=some (9,1)/\E.place 191 2=some (10,1)/\E.off 191 0=some 0/\E.off 191 1=some 9/\E.off 191 2=some 10/\E.ld 207=some (some 9)/\E.size 207=some 9/\E.zero 207=some (.agg #[.int .i64 0,.int .i64 0,.int .i64 0,.int .i64 0,.int .i64 0,.int .i64 0,.slice none 0 0,.slice none 0 0,.int .i64 0])/\E.place 207 7=some (7,2)/\E.off 207 0=some 0/\E.off 207 1=some 1/\E.off 207 2=some 2/\E.off 207 3=some 3/\E.off 207 4=some 4/\E.off 207 5=some 5/\E.off 207 6=some 6/\E.off 207 7=some 7/\E.ld 210=some (some 4)/\E.size 210=some 4/\E.zero 210=some (.agg #[.slice none 0 0,.int .i64 0,.slice none 0 0,.int .i64 0])/\E.place 210 0=some (0,1)/\E.place 210 1=some (1,1)/\E.place 210 2=some (2,2)/\E.off 210 0=some 0/\E.off 210 1=some 1/\E.off 210 2=some 2/\E.ld 227=some none/\E.size 227=some 1:=by and_intros<;>kernel_rfl
def Vt:E.elem 227=some 2/\E.ap 227=some (2,32)/\E.gB 227=some (2,.agg #[.slice none 0 0,.int .i64 0])/\E.zero 229=some (.agg #[.slice none 0 0,.slice none 0 0,.int .i64 0,.slice none 0 0,.slice none 0 0,.slice none 0 0,.int .i64 0,.slice none 0 0,.slice none 0 0,.slice none 0 0])/\E.place 229 0=some (0,9)/\E.off 229 0=some 0/\E.off 229 1=some 9/\E.ld 234=some none/\E.size 234=some 1/\E.zero 234=some (.map none)/\E.ld 236=some (some 2)/\E.size 236=some 2/\E.zero 236=some (.agg #[.int .i64 0,.int .i64 0])/\E.place 236 0=some (0,1)/\E.place 236 1=some (1,1)/\E.arr 236=some (2,1)/\E.ld 238=some none/\E.size 238=some 1/\E.zero 238=some (.map none)/\E.elem 243=some 1/\E.gB 243=some (1,.nilFunc)/\E.ld 247=some (some 3)/\E.size 247=some 3/\E.place 247 0=some (0,1)/\E.place 247 1=some (1,1)/\E.place 247 2=some (2,1)/\E.off 247 0=some 0/\E.off 247 1=some 1/\E.off 247 2=some 2/\E.ld 250=some none/\E.size 250=some 1/\E.zero 250=some (.pointer none)/\E.ld 253=some (some 8)/\E.size 253=some 8/\E.arr 253=some (8,1)/\E.ld 254=some none/\E.elem 254=some 8/\E.zero 256=some (.agg #[.slice none 0 0,.int .u64 0,.int .u64 0,.int .u64 0,.int .u64 0,.int .u64 0,.int .u64 0,.int .u64 0,.int .u64 0,.int .u64 0,.int .u64 0,.int .u64 0,.int .u64 0,.int .u64 0,.int .u64 0,.int .u64 0,.int .u64 0,.slice none 0 0,.bool false])/\E.place 256 0=some (0,1)/\E.place 256 3=some (17,1):=by and_intros<;>kernel_rfl
def Vu:E.off 256 0=some 0/\E.off 256 1=some 1/\E.off 256 2=some 9/\E.off 256 3=some 17/\E.off 256 4=some 18/\E.ld 259=some none/\E.size 259=some 1/\E.zero 261=some (.agg #[.slice none 0 0,.slice none 0 0,.int .i64 0,.slice none 0 0,.slice none 0 0,.slice none 0 0,.int .i64 0,.slice none 0 0,.slice none 0 0,.slice none 0 0,.nilFunc])/\E.place 261 0=some (0,9)/\E.off 261 0=some 0/\E.off 261 1=some 9/\E.off 261 2=some 10/\E.gB 276=some (2,.agg #[.int .i64 0,.slice none 0 0])/\E.zero 280=some (.agg #[.int .i64 0,.slice none 0 0])/\E.place 280 0=some (0,1)/\E.place 280 1=some (1,1)/\E.off 280 0=some 0/\E.off 280 1=some 1/\E.ld 285=some (some 3)/\E.size 285=some 3/\E.zero 285=some (.agg #[.int .i64 0,.int .i64 0,.int .i64 0])/\E.place 285 0=some (0,1)/\E.place 285 1=some (1,1)/\E.place 285 2=some (2,1)/\E.off 285 0=some 0/\E.off 285 1=some 1/\E.off 285 2=some 2/\E.ld 298=some none/\E.ld 311=some none/\E.size 311=some 1/\E.zero 311=some (.pointer none)/\E.ld 312=some none/\E.zero 314=some (.agg #[.slice none 0 0,.map none])/\E.place 314 1=some (1,1)/\E.off 314 0=some 0/\E.off 314 1=some 1/\E.ld 315=some none/\E.size 315=some 1/\E.zero 315=some (.nilFunc)/\E.ld 318=some none:=by and_intros<;>kernel_rfl
def Vv:E.size 318=some 1/\E.zero 318=some (.nilFunc)/\E.zero 336=some (.agg #[.slice none 0 0,.int .i64 0,.slice none 0 0,.int .i64 0,.slice none 0 0,.int .i64 0])/\E.place 336 0=some (0,2)/\E.place 336 1=some (2,2)/\E.place 336 2=some (4,2)/\E.arr 336=some (3,2)/\E.ld 337=some none/\E.ld 339=some none/\E.size 339=some 1/\E.zero 339=some (.map none)/\E.ld 344=some none/\E.size 344=some 1/\E.zero 344=some (.map none)/\E.ld 366=some none/\E.size 366=some 1/\E.zero 366=some (.map none)/\E.ld 367=some none/\E.size 367=some 1/\E.zero 367=some (.nilFunc)/\E.ld 368=some (some 3)/\E.zero 368=some (.agg #[.int .i64 0,.int .i64 0,.int .i64 0])/\E.place 368 0=some (0,1)/\E.place 368 1=some (1,1)/\E.place 368 2=some (2,1)/\E.arr 368=some (3,1)/\E.mb 22 9=true/\E.mb 3 219=false/\E.mb 3 5=false/\E.mb 5 3=false:=by and_intros<;>kernel_rfl
attribute [go_sem] Vn Vo Vp Vq Vr Vs Vt Vu Vv
end Go.Sp
end

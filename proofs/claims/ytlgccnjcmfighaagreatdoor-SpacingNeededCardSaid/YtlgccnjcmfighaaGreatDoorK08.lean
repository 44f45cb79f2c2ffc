/- Parts of a proof. -/
import Derived.Test.YtlgccnjcmfighaaGreatDoorK06
set_option linter.all false
set_option maxRecDepth 100000
noncomputable section
open Go Go.aD Go.Proofs
namespace Go.Sp
def dO{t:TypeId}(h:(match E.under t with|some d=>jZ d|none=>false)=true):∃d,E.under t=some d/\jZ d=true:=by
 cases hd:E.under t with
 |none=>rw[hd]at h;cases h
 |some d=>rw[hd]at h;exact⟨d,rfl,h⟩
def yc:E.zero 3=some (.int .i64 0):=ak
def By:E.zero 4=some (.bool false):=ak
def Vt(ps:List (Nat×Value)):mU E 33 (some ps)=rY E 33 ps (E.zero 33):=xO ps ak (dO ak)
def Vu(ps:List (Nat×DV)):eD E 33 ps=gA E 33 ps (E.zero 33):=iE ps ak (dO ak)
def Bz:E.elem 34=some 7:=ak
def BA:E.ap 34=some (7,112):=ak
def Vv(ps:List (Nat×DV)):eD E 39 ps=gA E 39 ps (E.zero 39):=iE ps ak (dO ak)
def yd:E.elem 42=some 4:=ak
def ye:E.ap 42=some (4,56):=ak
def Vw(ps:List (Nat×DV)):eD E 53 ps=gA E 53 ps (E.zero 53):=iE ps ak (dO ak)
def Vx(ps:List (Nat×DV)):eD E 62 ps=gA E 62 ps (E.zero 62):=iE ps ak (dO ak)
def n9:E.elem 70=some 1:=ak
def sf:E.ap 70=some (1,8):=ak
def BB:E.elem 73=some 5:=ak
def BC:E.ap 73=some (5,56):=ak
def Vy(ps:List (Nat×DV)):eD E 75 ps=gA E 75 ps (E.zero 75):=iE ps ak (dO ak)
def Vz(ps:List (Nat×DV)):eD E 79 ps=gA E 79 ps (E.zero 79):=iE ps ak (dO ak)
def VA(ps:List (Nat×DV)):eD E 85 ps=gA E 85 ps (E.zero 85):=iE ps ak (dO ak)
def VB(ps:List (Nat×DV)):eD E 87 ps=gA E 87 ps (E.zero 87):=iE ps ak (dO ak)
def VC(ps:List (Nat×DV)):eD E 90 ps=gA E 90 ps (E.zero 90):=iE ps ak (dO ak)
def BD:E.elem 103=some 1:=ak
def Gy:E.ap 103=some (1,8):=ak
def Gz:E.elem 118=some 2:=ak
def GA:E.ap 118=some (2,32):=ak
def VD(ps:List (Nat×DV)):eD E 126 ps=gA E 126 ps (E.zero 126):=iE ps ak (dO ak)
def VE(ps:List (Nat×DV)):eD E 129 ps=gA E 129 ps (E.zero 129):=iE ps ak (dO ak)
def GB:E.zero 137=some (.agg #[.int .i64 0,.int .i64 0,.int .i64 0]):=ak
def VF(ps:List (Nat×Value)):mU E 137 (some ps)=rY E 137 ps (E.zero 137):=xO ps ak (dO ak)
def VG(ps:List (Nat×DV)):eD E 137 ps=gA E 137 ps (E.zero 137):=iE ps ak (dO ak)
def GC:E.zero 149=some (.agg #[.int .u64 0,.int .u64 0,.int .u64 0,.int .u64 0,.int .u64 0,.int .u64 0,.int .u64 0,.int .u64 0]):=ak
def VH(ps:List (Nat×DV)):eD E 149 ps=gA E 149 ps (E.zero 149):=iE ps ak (dO ak)
def VI(ps:List (Nat×DV)):eD E 152 ps=gA E 152 ps (E.zero 152):=iE ps ak (dO ak)
def VJ(ps:List (Nat×DV)):eD E 158 ps=gA E 158 ps (E.zero 158):=iE ps ak (dO ak)
def VK(ps:List (Nat×DV)):eD E 171 ps=gA E 171 ps (E.zero 171):=iE ps ak (dO ak)
def VL(ps:List (Nat×DV)):eD E 173 ps=gA E 173 ps (E.zero 173):=iE ps ak (dO ak)
def VM(ps:List (Nat×DV)):eD E 193 ps=gA E 193 ps (E.zero 193):=iE ps ak (dO ak)
def VN(ps:List (Nat×DV)):eD E 199 ps=gA E 199 ps (E.zero 199):=iE ps ak (dO ak)
def VO(ps:List (Nat×Value)):mU E 221 (some ps)=rY E 221 ps (E.zero 221):=xO ps ak (dO ak)
def VP(ps:List (Nat×Value)):mU E 232 (some ps)=rY E 232 ps (E.zero 232):=xO ps ak (dO ak)
def VQ(ps:List (Nat×DV)):eD E 267 ps=gA E 267 ps (E.zero 267):=iE ps ak (dO ak)
attribute [go_sem] yc By Vt Vu Bz BA Vv yd ye Vw Vx n9 sf BB BC Vy Vz VA VB VC BD Gy Gz GA VD VE GB VF VG GC VH VI VJ VK VL VM VN VO VP VQ
def VR(n:Int):sb E 3 5 (.int .i64 n)=some (.int .u8 (IntKind.wrap .u8 n)):=ak
def VS(n:Int):sb E 3 58 (.int .i64 n)=some (.int .u64 (IntKind.wrap .u64 n)):=ak
def VT(n:Int):sb E 5 3 (.int .u8 n)=some (.int .i64 (IntKind.wrap .i64 n)):=ak
attribute [go_sem] VR VS VT
def Ak:E.fn 2=some Tryz.f2:=ak
def VU:E.fn 3=some Tryz.f3:=ak
def VV:E.ld 3=some none/\E.size 3=some 1/\E.ld 4=some none/\E.size 4=some 1/\E.ld 5=some none/\E.size 5=some 1/\E.ld 9=some none/\E.size 9=some 1/\E.ld 22=some none/\E.elem 22=some 1/\E.gN 22=some (1,.int .u8 0)/\E.ld 23=some none/\E.elem 23=some 4/\E.ld 24=some none/\E.elem 24=some 5/\E.ld 26=some (some 5)/\E.off 26 0=some 0/\E.off 26 1=some 1/\E.off 26 2=some 2/\E.off 26 3=some 3/\E.off 26 4=some 4/\E.ld 28=some (some 8)/\E.off 28 0=some 0/\E.off 28 1=some 5/\E.off 28 2=some 6/\E.off 28 3=some 7/\E.ld 30=some none/\E.size 30=some 1/\E.elem 30=some 1/\E.gN 30=some (1,.string ⟨#[]⟩)/\E.ld 31=some none/\E.size 31=some 1/\E.elem 31=some 3/\E.gN 31=some (3,.agg #[.int .i64 0,.int .i64 0,.int .i64 0])/\E.ld 33=some (some 2)/\E.size 33=some 2/\E.zero 33=some (.agg #[.slice none 0 0,.int .i64 0])/\E.place 33 0=some (0,1)/\E.place 33 1=some (1,1)/\E.off 33 0=some 0:=by and_intros<;>kernel_rfl
def VW:E.off 33 1=some 1/\E.ld 34=some none/\E.size 34=some 1/\E.gN 34=some (7,.agg #[.string ⟨#[]⟩,.int .i64 0,.string ⟨#[]⟩,.slice none 0 0,.string ⟨#[]⟩,.slice none 0 0,.int .i64 0])/\E.ld 35=some none/\E.size 35=some 1/\E.elem 35=some 13/\E.ap 35=some (13,160)/\E.gN 35=some (13,.agg #[.string ⟨#[]⟩,.int .i64 0,.slice none 0 0,.slice none 0 0,.int .i64 0,.bool false,.int .i64 0,.slice none 0 0,.bool false,.int .i64 0,.int .i64 0,.int .i64 0,.int .i64 0])/\E.ld 36=some none/\E.size 36=some 1/\E.elem 36=some 4/\E.ap 36=some (4,64)/\E.gN 36=some (4,.agg #[.slice none 0 0,.int .i64 0,.slice none 0 0,.int .i64 0])/\E.ld 37=some none/\E.size 37=some 1/\E.elem 37=some 9/\E.ap 37=some (9,104)/\E.gN 37=some (9,.agg #[.int .i64 0,.int .i64 0,.int .i64 0,.int .i64 0,.int .i64 0,.int .i64 0,.slice none 0 0,.slice none 0 0,.int .i64 0])/\E.ld 39=some (some 9)/\E.size 39=some 9/\E.zero 39=some (.agg #[.slice none 0 0,.slice none 0 0,.int .i64 0,.slice none 0 0,.slice none 0 0,.slice none 0 0,.int .i64 0,.slice none 0 0,.slice none 0 0])/\E.place 39 0=some (0,1)/\E.place 39 1=some (1,2)/\E.place 39 2=some (3,1)/\E.place 39 3=some (4,1)/\E.off 39 0=some 0/\E.off 39 1=some 1/\E.off 39 2=some 3/\E.off 39 3=some 4/\E.off 39 4=some 5/\E.off 39 5=some 6/\E.off 39 6=some 7/\E.off 39 7=some 8/\E.ld 40=some none/\E.size 40=some 1/\E.ld 41=some none/\E.gN 42=some (4,.agg #[.int .i64 0,.int .i64 0,.string ⟨#[]⟩,.slice none 0 0])/\E.elem 45=some 1/\E.ap 45=some (1,1):=by and_intros<;>kernel_rfl
def VX:E.gN 45=some (1,.bool false)/\E.ld 46=some none/\E.size 46=some 1/\E.zero 46=some (.int .i64 0)/\E.ld 53=some (some 4)/\E.size 53=some 4/\E.zero 53=some (.agg #[.int .i64 0,.int .i64 0,.string ⟨#[]⟩,.slice none 0 0])/\E.place 53 0=some (0,1)/\E.place 53 1=some (1,1)/\E.place 53 2=some (2,1)/\E.off 53 0=some 0/\E.off 53 1=some 1/\E.off 53 2=some 2/\E.ld 60=some none/\E.size 60=some 1/\E.elem 60=some 5/\E.gN 60=some (5,.agg #[.int .i64 0,.int .i64 0,.int .i64 0,.int .i64 0,.int .i64 0])/\E.ld 62=some (some 7)/\E.size 62=some 7/\E.zero 62=some (.agg #[.string ⟨#[]⟩,.int .i64 0,.string ⟨#[]⟩,.slice none 0 0,.string ⟨#[]⟩,.slice none 0 0,.int .i64 0])/\E.place 62 0=some (0,1)/\E.place 62 1=some (1,1)/\E.place 62 2=some (2,1)/\E.place 62 3=some (3,1)/\E.place 62 4=some (4,1)/\E.place 62 5=some (5,2)/\E.off 62 0=some 0/\E.off 62 1=some 1/\E.off 62 2=some 2/\E.off 62 3=some 3/\E.off 62 4=some 4/\E.off 62 5=some 5/\E.ld 70=some none/\E.size 70=some 1/\E.zero 70=some (.slice none 0 0)/\E.gN 70=some (1,.int .i64 0)/\E.ld 73=some none/\E.size 73=some 1/\E.gN 73=some (5,.agg #[.int .i64 0,.int .i64 0,.int .i64 0,.bool false,.slice none 0 0])/\E.ld 75=some (some 4):=by and_intros<;>kernel_rfl
def VY:E.size 75=some 4/\E.zero 75=some (.agg #[.slice none 0 0,.slice none 0 0,.int .i64 0,.int .i64 0])/\E.place 75 2=some (2,1)/\E.place 75 3=some (3,1)/\E.off 75 0=some 0/\E.off 75 1=some 1/\E.off 75 3=some 3/\E.ld 79=some (some 5)/\E.size 79=some 5/\E.zero 79=some (.agg #[.int .i64 0,.int .i64 0,.int .i64 0,.bool false,.slice none 0 0])/\E.place 79 0=some (0,1)/\E.place 79 1=some (1,1)/\E.off 79 0=some 0/\E.off 79 1=some 1/\E.off 79 2=some 2/\E.off 79 3=some 3/\E.off 79 4=some 4/\E.ld 82=some none/\E.size 82=some 1/\E.elem 82=some 2/\E.ap 82=some (2,16)/\E.gN 82=some (2,.agg #[.bool false,.int .i64 0])/\E.ld 83=some none/\E.size 83=some 1/\E.elem 83=some 3/\E.gN 83=some (3,.agg #[.int .i64 0,.int .i64 0,.int .i64 0])/\E.ld 85=some (some 5)/\E.size 85=some 5/\E.zero 85=some (.agg #[.bool false,.int .i64 0,.int .i64 0,.int .i64 0,.int .i64 0])/\E.place 85 1=some (1,1)/\E.place 85 2=some (2,1)/\E.place 85 3=some (3,1)/\E.place 85 4=some (4,1)/\E.off 85 0=some 0/\E.off 85 1=some 1/\E.off 85 2=some 2/\E.off 85 3=some 3/\E.off 85 4=some 4/\E.ld 87=some (some 13)/\E.size 87=some 13:=by and_intros<;>kernel_rfl
def VZ:E.zero 87=some (.agg #[.string ⟨#[]⟩,.int .i64 0,.slice none 0 0,.slice none 0 0,.int .i64 0,.bool false,.int .i64 0,.slice none 0 0,.bool false,.int .i64 0,.int .i64 0,.int .i64 0,.int .i64 0])/\E.place 87 0=some (0,1)/\E.place 87 1=some (1,1)/\E.place 87 2=some (2,1)/\E.place 87 3=some (3,2)/\E.off 87 0=some 0/\E.off 87 1=some 1/\E.off 87 2=some 2/\E.off 87 3=some 3/\E.off 87 4=some 5/\E.off 87 5=some 6/\E.off 87 6=some 7/\E.off 87 7=some 8/\E.ld 90=some (some 2)/\E.size 90=some 2/\E.zero 90=some (.agg #[.bool false,.int .i64 0])/\E.place 90 0=some (0,1)/\E.place 90 1=some (1,1)/\E.off 90 0=some 0/\E.off 90 1=some 1/\E.ld 95=some (some 4)/\E.off 95 0=some 0/\E.off 95 1=some 1/\E.off 95 2=some 2/\E.off 95 3=some 3/\E.ld 98=some (some 5)/\E.off 98 0=some 0/\E.off 98 1=some 1/\E.off 98 2=some 2/\E.off 98 3=some 3/\E.off 98 4=some 4/\E.gN 103=some (1,.int .u64 0)/\E.ld 107=some none/\E.ld 108=some none/\E.ld 112=some none/\E.size 112=some 1/\E.zero 112=some (.nilFunc)/\E.ld 118=some none/\E.size 118=some 1/\E.gN 118=some (2,.agg #[.slice none 0 0,.int .i64 0]):=by and_intros<;>kernel_rfl
def V0:E.ld 126=some (some 9)/\E.size 126=some 9/\E.zero 126=some (.agg #[.int .i64 0,.int .i64 0,.int .i64 0,.int .i64 0,.int .i64 0,.int .i64 0,.slice none 0 0,.slice none 0 0,.int .i64 0])/\E.place 126 7=some (7,2)/\E.off 126 0=some 0/\E.off 126 1=some 1/\E.off 126 2=some 2/\E.off 126 3=some 3/\E.off 126 4=some 4/\E.off 126 5=some 5/\E.off 126 6=some 6/\E.off 126 7=some 7/\E.ld 129=some (some 4)/\E.size 129=some 4/\E.zero 129=some (.agg #[.slice none 0 0,.int .i64 0,.slice none 0 0,.int .i64 0])/\E.place 129 0=some (0,1)/\E.place 129 1=some (1,1)/\E.place 129 2=some (2,2)/\E.off 129 0=some 0/\E.off 129 1=some 1/\E.off 129 2=some 2/\E.ld 137=some (some 3)/\E.size 137=some 3/\E.place 137 0=some (0,1)/\E.place 137 1=some (1,1)/\E.place 137 2=some (2,1)/\E.off 137 0=some 0/\E.off 137 1=some 1/\E.off 137 2=some 2/\E.ld 142=some none/\E.ld 143=some none/\E.size 143=some 1/\E.zero 143=some (.map none)/\E.ld 146=some none/\E.size 146=some 1/\E.zero 146=some (.pointer none)/\E.ld 149=some (some 8)/\E.size 149=some 8/\E.arr 149=some (8,1)/\E.ld 150=some none:=by and_intros<;>kernel_rfl
def V1:E.elem 150=some 8/\E.zero 152=some (.agg #[.slice none 0 0,.int .u64 0,.int .u64 0,.int .u64 0,.int .u64 0,.int .u64 0,.int .u64 0,.int .u64 0,.int .u64 0,.int .u64 0,.int .u64 0,.int .u64 0,.int .u64 0,.int .u64 0,.int .u64 0,.int .u64 0,.int .u64 0,.slice none 0 0,.bool false])/\E.place 152 0=some (0,1)/\E.place 152 3=some (17,1)/\E.off 152 0=some 0/\E.off 152 1=some 1/\E.off 152 2=some 9/\E.off 152 3=some 17/\E.off 152 4=some 18/\E.ld 156=some none/\E.size 156=some 1/\E.zero 158=some (.agg #[.slice none 0 0,.slice none 0 0,.int .i64 0,.slice none 0 0,.slice none 0 0,.slice none 0 0,.int .i64 0,.slice none 0 0,.slice none 0 0,.slice none 0 0,.nilFunc])/\E.place 158 0=some (0,9)/\E.off 158 0=some 0/\E.off 158 1=some 9/\E.off 158 2=some 10/\E.ld 171=some (some 3)/\E.size 171=some 3/\E.zero 171=some (.agg #[.int .i64 0,.int .i64 0,.int .i64 0])/\E.place 171 0=some (0,1)/\E.place 171 1=some (1,1)/\E.place 171 2=some (2,1)/\E.off 171 0=some 0/\E.off 171 1=some 1/\E.off 171 2=some 2/\E.ld 173=some (some 5)/\E.size 173=some 5/\E.zero 173=some (.agg #[.int .i64 0,.int .i64 0,.int .i64 0,.int .i64 0,.int .i64 0])/\E.place 173 0=some (0,1)/\E.place 173 1=some (1,1)/\E.place 173 2=some (2,1)/\E.place 173 3=some (3,1)/\E.place 173 4=some (4,1)/\E.off 173 0=some 0/\E.off 173 1=some 1/\E.off 173 2=some 2/\E.off 173 3=some 3/\E.off 173 4=some 4/\E.zero 193=some (.agg #[.slice none 0 0,.slice none 0 0,.int .i64 0,.slice none 0 0,.slice none 0 0,.slice none 0 0,.int .i64 0,.slice none 0 0,.slice none 0 0,.slice none 0 0])/\E.place 193 0=some (0,9):=by and_intros<;>kernel_rfl
def V3:E.off 193 0=some 0/\E.off 193 1=some 9/\E.ld 197=some none/\E.size 197=some 1/\E.zero 197=some (.map none)/\E.ld 199=some (some 2)/\E.size 199=some 2/\E.zero 199=some (.agg #[.int .i64 0,.int .i64 0])/\E.place 199 0=some (0,1)/\E.place 199 1=some (1,1)/\E.arr 199=some (2,1)/\E.ld 201=some none/\E.size 201=some 1/\E.zero 201=some (.map none)/\E.elem 206=some 1/\E.gN 206=some (1,.nilFunc)/\E.ld 208=some none/\E.size 208=some 1/\E.zero 208=some (.nilFunc)/\E.ld 209=some none/\E.size 209=some 1/\E.zero 209=some (.nilFunc)/\E.ld 213=some none/\E.size 213=some 1/\E.zero 213=some (.nilFunc)/\E.ld 218=some none/\E.size 218=some 1/\E.zero 218=some (.pointer none)/\E.ld 219=some none/\E.zero 221=some (.agg #[.slice none 0 0,.map none])/\E.place 221 1=some (1,1)/\E.off 221 0=some 0/\E.off 221 1=some 1/\E.ld 232=some (some 3)/\E.zero 232=some (.agg #[.int .i64 0,.int .i64 0,.int .i64 0])/\E.place 232 0=some (0,1)/\E.place 232 1=some (1,1)/\E.place 232 2=some (2,1)/\E.arr 232=some (3,1)/\E.ld 241=some none:=by and_intros<;>kernel_rfl
def V4:E.ld 256=some none/\E.size 256=some 1/\E.zero 256=some (.map none)/\E.zero 267=some (.agg #[.slice none 0 0,.int .i64 0,.slice none 0 0,.int .i64 0,.slice none 0 0,.int .i64 0])/\E.place 267 0=some (0,2)/\E.place 267 1=some (2,2)/\E.place 267 2=some (4,2)/\E.arr 267=some (3,2)/\E.ld 268=some none/\E.ld 270=some none/\E.size 270=some 1/\E.zero 270=some (.map none)/\E.ld 279=some none/\E.size 279=some 1/\E.zero 279=some (.map none)/\E.ld 280=some none/\E.size 280=some 1/\E.zero 280=some (.nilFunc)/\E.mi 22 9=true/\E.mi 3 5=false/\E.mi 3 58=false/\E.mi 5 3=false:=by and_intros<;>kernel_rfl
attribute [go_sem] VV VW VX VY VZ V0 V1 V3 V4
end Go.Sp
end

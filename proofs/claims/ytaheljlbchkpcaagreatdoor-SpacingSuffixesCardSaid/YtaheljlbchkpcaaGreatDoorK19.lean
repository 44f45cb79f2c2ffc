/- SpacingSuffixes: parts of its proof (SpT Dg1 Eq1 Dg2). -/
import Derived.Test.YtaheljlbchkpcaaGreatDoorK11
import Derived.Test.YtaheljlbchkpcaaGreatDoorK12
import Derived.Test.YtaheljlbchkpcaaGreatDoorK18
set_option linter.unusedVariables false
set_option linter.unusedSimpArgs false
noncomputable section
open Go Go.aw Go.Proofs
namespace Go.Sp
set_option maxRecDepth 100000
theorem dV{t:TypeId}(h:(match E.under t with|some d=>j7 d|none=>false)=true):∃d,E.under t=some d/\j7 d=true:=by
 cases hd:E.under t with
 |none=>rw[hd]at h;cases h
 |some d=>rw[hd]at h;exact⟨d,rfl,h⟩
theorem yY:E.zero 3=some (.int .i64 0):=by kernel_rfl
theorem Gy:E.zero 4=some (.bool false):=by kernel_rfl
theorem U0(ps:List (Nat×Value)):nn E 33 (some ps)=sT E 33 ps (E.zero 33):=yD ps (by kernel_rfl) (dV (by kernel_rfl))
theorem U1(ps:List (Nat×DV)):eV E 33 ps=ia E 33 ps (E.zero 33):=jm ps (by kernel_rfl) (dV (by kernel_rfl))
theorem Cd:E.elem 34=some 7:=by kernel_rfl
theorem Ce:E.ap 34=some (7,112):=by kernel_rfl
theorem U2(ps:List (Nat×DV)):eV E 39 ps=ia E 39 ps (E.zero 39):=jm ps (by kernel_rfl) (dV (by kernel_rfl))
theorem yZ:E.elem 42=some 4:=by kernel_rfl
theorem y5:E.ap 42=some (4,56):=by kernel_rfl
theorem U3(ps:List (Nat×DV)):eV E 53 ps=ia E 53 ps (E.zero 53):=jm ps (by kernel_rfl) (dV (by kernel_rfl))
theorem U4(ps:List (Nat×DV)):eV E 61 ps=ia E 61 ps (E.zero 61):=jm ps (by kernel_rfl) (dV (by kernel_rfl))
theorem U5(ps:List (Nat×DV)):eV E 74 ps=ia E 74 ps (E.zero 74):=jm ps (by kernel_rfl) (dV (by kernel_rfl))
theorem U6(ps:List (Nat×DV)):eV E 76 ps=ia E 76 ps (E.zero 76):=jm ps (by kernel_rfl) (dV (by kernel_rfl))
theorem U7(ps:List (Nat×DV)):eV E 79 ps=ia E 79 ps (E.zero 79):=jm ps (by kernel_rfl) (dV (by kernel_rfl))
theorem Cf:E.elem 92=some 1:=by kernel_rfl
theorem Gz:E.ap 92=some (1,8):=by kernel_rfl
theorem Cg:E.elem 105=some 1:=by kernel_rfl
theorem Ch:E.ap 105=some (1,8):=by kernel_rfl
theorem U8(ps:List (Nat×DV)):eV E 107 ps=ia E 107 ps (E.zero 107):=jm ps (by kernel_rfl) (dV (by kernel_rfl))
theorem U9(ps:List (Nat×DV)):eV E 110 ps=ia E 110 ps (E.zero 110):=jm ps (by kernel_rfl) (dV (by kernel_rfl))
theorem GA:E.zero 118=some (.agg #[.int .i64 0,.int .i64 0,.int .i64 0]):=by kernel_rfl
theorem Va(ps:List (Nat×Value)):nn E 118 (some ps)=sT E 118 ps (E.zero 118):=yD ps (by kernel_rfl) (dV (by kernel_rfl))
theorem Vb(ps:List (Nat×DV)):eV E 118 ps=ia E 118 ps (E.zero 118):=jm ps (by kernel_rfl) (dV (by kernel_rfl))
theorem GB:E.zero 130=some (.agg #[.int .u64 0,.int .u64 0,.int .u64 0,.int .u64 0,.int .u64 0,.int .u64 0,.int .u64 0,.int .u64 0]):=by kernel_rfl
theorem Vc(ps:List (Nat×DV)):eV E 130 ps=ia E 130 ps (E.zero 130):=jm ps (by kernel_rfl) (dV (by kernel_rfl))
theorem Vd(ps:List (Nat×DV)):eV E 133 ps=ia E 133 ps (E.zero 133):=jm ps (by kernel_rfl) (dV (by kernel_rfl))
theorem Ve(ps:List (Nat×DV)):eV E 139 ps=ia E 139 ps (E.zero 139):=jm ps (by kernel_rfl) (dV (by kernel_rfl))
theorem Vf(ps:List (Nat×DV)):eV E 150 ps=ia E 150 ps (E.zero 150):=jm ps (by kernel_rfl) (dV (by kernel_rfl))
theorem Vg(ps:List (Nat×DV)):eV E 152 ps=ia E 152 ps (E.zero 152):=jm ps (by kernel_rfl) (dV (by kernel_rfl))
theorem Vh(ps:List (Nat×DV)):eV E 173 ps=ia E 173 ps (E.zero 173):=jm ps (by kernel_rfl) (dV (by kernel_rfl))
theorem Vi(ps:List (Nat×DV)):eV E 179 ps=ia E 179 ps (E.zero 179):=jm ps (by kernel_rfl) (dV (by kernel_rfl))
theorem Vj(ps:List (Nat×Value)):nn E 201 (some ps)=sT E 201 ps (E.zero 201):=yD ps (by kernel_rfl) (dV (by kernel_rfl))
theorem Vk(ps:List (Nat×Value)):nn E 206 (some ps)=sT E 206 ps (E.zero 206):=yD ps (by kernel_rfl) (dV (by kernel_rfl))
theorem Vl(ps:List (Nat×DV)):eV E 238 ps=ia E 238 ps (E.zero 238):=jm ps (by kernel_rfl) (dV (by kernel_rfl))
attribute [go_sem] yY Gy U0 U1 Cd Ce U2 yZ y5 U3 U4 U5 U6 U7 Cf Gz Cg Ch U8 U9 GA Va Vb GB Vc Vd Ve Vf Vg Vh Vi Vj Vk Vl
theorem Vm(n:Int):sY E 3 5 (.int .i64 n)=some (.int .u8 (IntKind.wrap .u8 n)):=by kernel_rfl
theorem Vn(n:Int):sY E 3 57 (.int .i64 n)=some (.int .u64 (IntKind.wrap .u64 n)):=by kernel_rfl
theorem Vo(n:Int):sY E 5 3 (.int .u8 n)=some (.int .i64 (IntKind.wrap .i64 n)):=by kernel_rfl
attribute [go_sem] Vm Vn Vo
theorem AX:E.fn 2=some Tryz.f2:=by kernel_rfl
theorem GC:E.fn 3=some Tryz.f3:=by kernel_rfl
theorem Vp:E.fn 4=some Tryz.f4:=by kernel_rfl
theorem Vq:E.fn 5=some Tryz.f5:=by kernel_rfl
theorem GD:E.fn 6=some Tryz.f6:=by kernel_rfl
theorem Vr:E.fn 7=some Tryz.f7:=by kernel_rfl
theorem Vs:E.fn 9=some Tryz.f9:=by kernel_rfl
theorem Vt:E.fn 10=some Tryz.f10:=by kernel_rfl
theorem Vu:E.fn 11=some Tryz.f11:=by kernel_rfl
theorem Vv:E.fn 13=some Tryz.f13:=by kernel_rfl
theorem Vw:E.fn 14=some Tryz.f14:=by kernel_rfl
theorem Vx:E.fn 15=some Tryz.f15:=by kernel_rfl
theorem GF:E.fn 16=some Tryz.f16:=by kernel_rfl
theorem Vy:E.fn 18=some Tryz.f18:=by kernel_rfl
theorem Vz:E.fn 19=some Tryz.f19:=by kernel_rfl
theorem VA:E.fn 20=some Tryz.f20:=by kernel_rfl
theorem VB:E.fn 21=some Tryz.f21:=by kernel_rfl
theorem VC:E.fn 22=some Tryz.f22:=by kernel_rfl
theorem wS:E.fn 23=some Tryz.f23:=by kernel_rfl
theorem VD:E.fn 25=some Tryz.f25:=by kernel_rfl
theorem VE:E.fn 27=some Tryz.f27:=by kernel_rfl
theorem VF:E.fn 28=some Tryz.f28:=by kernel_rfl
theorem VG:E.fn 29=some Tryz.f29:=by kernel_rfl
theorem VH:E.fn 30=some Tryz.f30:=by kernel_rfl
theorem VI:E.fn 31=some Tryz.f31:=by kernel_rfl
theorem VJ:E.fn 32=some Tryz.f32:=by kernel_rfl
theorem VK:E.fn 33=some Tryz.f33:=by kernel_rfl
theorem VL:E.fn 34=some Tryz.f34:=by kernel_rfl
theorem VM:E.fn 35=some Tryz.f35:=by kernel_rfl
theorem VN:E.fn 36=some Tryz.f36:=by kernel_rfl
theorem VO:E.fn 43=some Tryz.f43:=by kernel_rfl
theorem GG:E.fn 44=some Tryz.f44:=by kernel_rfl
theorem VP:E.fn 45=some Tryz.f45:=by kernel_rfl
theorem VQ:E.fn 46=some Tryz.f46:=by kernel_rfl
theorem VR:E.fn 47=some Tryz.f47:=by kernel_rfl
theorem Ci:E.fn 48=some Tryz.f48:=by kernel_rfl
theorem VS:E.fn 52=some Tryz.f52:=by kernel_rfl
theorem VT:E.fn 56=some Tryz.f56:=by kernel_rfl
theorem VU:E.fn 57=some Tryz.f57:=by kernel_rfl
theorem VV:E.fn 58=some Tryz.f58:=by kernel_rfl
theorem VW:E.fn 59=some Tryz.f59:=by kernel_rfl
theorem VX:E.fn 60=some Tryz.f60:=by kernel_rfl
theorem VY:E.fn 61=some Tryz.f61:=by kernel_rfl
theorem VZ:E.fn 63=some Tryz.f63:=by kernel_rfl
theorem V0:E.fn 64=some Tryz.f64:=by kernel_rfl
theorem V1:E.fn 65=some Tryz.f65:=by kernel_rfl
theorem V2:E.fn 67=some Tryz.f67:=by kernel_rfl
theorem V3:E.fn 68=some Tryz.f68:=by kernel_rfl
theorem V4:E.fn 69=some Tryz.f69:=by kernel_rfl
theorem V5:E.fn 70=some Tryz.f70:=by kernel_rfl
theorem V6:E.fn 71=some Tryz.f71:=by kernel_rfl
theorem V7:E.fn 72=some Tryz.f72:=by kernel_rfl
theorem V8:E.fn 73=some Tryz.f73:=by kernel_rfl
theorem V9:E.fn 74=some Tryz.f74:=by kernel_rfl
theorem Wa:E.fn 75=some Tryz.f75:=by kernel_rfl
theorem Wb:E.fn 76=some Tryz.f76:=by kernel_rfl
theorem Wc:E.fn 77=some Tryz.f77:=by kernel_rfl
theorem Wd:E.fn 80=some Tryz.f80:=by kernel_rfl
theorem We:E.fn 81=some Tryz.f81:=by kernel_rfl
theorem Wf:E.fn 83=some Tryz.f83:=by kernel_rfl
theorem Wg:E.fn 84=some Tryz.f84:=by kernel_rfl
theorem Wh:E.fn 92=some Tryz.f92:=by kernel_rfl
theorem Wi:E.fn 93=some Tryz.f93:=by kernel_rfl
theorem Wj:E.fn 94=some Tryz.f94:=by kernel_rfl
theorem GH:E.fn 95=some Tryz.f95:=by kernel_rfl
theorem Wk:E.fn 96=some Tryz.f96:=by kernel_rfl
theorem Wl:E.fn 97=some Tryz.f97:=by kernel_rfl
theorem Wm:E.fn 98=some Tryz.f98:=by kernel_rfl
theorem GJ:E.fn 99=some Tryz.f99:=by kernel_rfl
theorem Wn:E.fn 100=some Tryz.f100:=by kernel_rfl
theorem Wo:E.fn 101=some Tryz.f101:=by kernel_rfl
theorem Wp:E.fn 102=some Tryz.f102:=by kernel_rfl
theorem Wq:E.fn 103=some Tryz.f103:=by kernel_rfl
theorem Wr:E.fn 104=some Tryz.f104:=by kernel_rfl
theorem Ws:E.fn 105=some Tryz.f105:=by kernel_rfl
theorem Wt:E.fn 106=some Tryz.f106:=by kernel_rfl
theorem Wu:E.fn 107=some Tryz.f107:=by kernel_rfl
theorem Wv:E.fn 108=some Tryz.f108:=by kernel_rfl
theorem Ww:E.fn 111=some Tryz.f111:=by kernel_rfl
theorem Wx:E.fn 112=some Tryz.f112:=by kernel_rfl
theorem Wy:E.fn 113=some Tryz.f113:=by kernel_rfl
theorem GK:E.fn 114=some Tryz.f114:=by kernel_rfl
theorem Wz:E.fn 115=some Tryz.f115:=by kernel_rfl
theorem WA:E.fn 116=some Tryz.f116:=by kernel_rfl
theorem WB:E.fn 117=some Tryz.f117:=by kernel_rfl
theorem WC:E.fn 118=some Tryz.f118:=by kernel_rfl
theorem GL:E.fn 119=some Tryz.f119:=by kernel_rfl
theorem WE:E.fn 120=some Tryz.f120:=by kernel_rfl
theorem WG:E.fn 121=some Tryz.f121:=by kernel_rfl
theorem WH:E.fn 122=some Tryz.f122:=by kernel_rfl
theorem WI:E.fn 123=some Tryz.f123:=by kernel_rfl
theorem WJ:E.fn 124=some Tryz.f124:=by kernel_rfl
theorem WK:E.fn 125=some Tryz.f125:=by kernel_rfl
theorem WL:E.fn 134=some Tryz.f134:=by kernel_rfl
theorem WM:E.fn 135=some Tryz.f135:=by kernel_rfl
theorem WN:E.fn 136=some Tryz.f136:=by kernel_rfl
theorem WO:E.fn 137=some Tryz.f137:=by kernel_rfl
theorem WS:E.fn 138=some Tryz.f138:=by kernel_rfl
theorem WT:E.fn 139=some Tryz.f139:=by kernel_rfl
theorem WU:E.fn 140=some Tryz.f140:=by kernel_rfl
theorem WV:E.fn 141=some Tryz.f141:=by kernel_rfl
theorem WW:E.fn 142=some Tryz.f142:=by kernel_rfl
theorem WX:E.fn 144=some Tryz.f144:=by kernel_rfl
theorem WY:E.fn 145=some Tryz.f145:=by kernel_rfl
theorem WZ:E.fn 146=some Tryz.f146:=by kernel_rfl
theorem W0:E.fn 147=some Tryz.f147:=by kernel_rfl
theorem W1:E.fn 148=some Tryz.f148:=by kernel_rfl
theorem W2:E.fn 149=some Tryz.f149:=by kernel_rfl
theorem W3:E.fn 150=some Tryz.f150:=by kernel_rfl
theorem W4:E.fn 151=some Tryz.f151:=by kernel_rfl
theorem W5:E.fn 152=some Tryz.f152:=by kernel_rfl
theorem GM:E.fn 154=some Tryz.f154:=by kernel_rfl
theorem W6:E.fn 159=some Tryz.f159:=by kernel_rfl
theorem W7:E.fn 160=some Tryz.f160:=by kernel_rfl
theorem W8:E.fn 161=some Tryz.f161:=by kernel_rfl
theorem W9:E.fn 162=some Tryz.f162:=by kernel_rfl
theorem Xa:E.fn 163=some Tryz.f163:=by kernel_rfl
theorem Xb:E.fn 164=some Tryz.f164:=by kernel_rfl
theorem Xc:E.fn 165=some Tryz.f165:=by kernel_rfl
theorem Xd:E.fn 166=some Tryz.f166:=by kernel_rfl
theorem Xe:E.fn 167=some Tryz.f167:=by kernel_rfl
theorem Xf:E.fn 168=some Tryz.f168:=by kernel_rfl
theorem Xg:E.fn 169=some Tryz.f169:=by kernel_rfl
theorem Xh:E.fn 170=some Tryz.f170:=by kernel_rfl
theorem Xi:E.fn 175=some Tryz.f175:=by kernel_rfl
theorem Cj:E.fn 176=some Tryz.f176:=by kernel_rfl
theorem GN:E.fn 177=some Tryz.f177:=by kernel_rfl
theorem y6:E.fn 178=some Tryz.f178:=by kernel_rfl
theorem Xj:E.fn 179=some Tryz.f179:=by kernel_rfl
theorem Xk:E.ld 3=some none/\E.size 3=some 1/\E.ld 4=some none/\E.size 4=some 1/\E.ld 5=some none/\E.ld 9=some none/\E.size 9=some 1/\E.ld 22=some none/\E.elem 22=some 1/\E.hD 22=some (1,.int .u8 0)/\E.ld 23=some none/\E.elem 23=some 4/\E.ld 24=some none/\E.elem 24=some 5/\E.ld 26=some (some 5)/\E.off 26 0=some 0/\E.off 26 1=some 1/\E.off 26 2=some 2/\E.off 26 3=some 3/\E.off 26 4=some 4/\E.ld 28=some (some 8)/\E.off 28 0=some 0/\E.off 28 1=some 5/\E.off 28 2=some 6/\E.off 28 3=some 7/\E.ld 30=some none/\E.size 30=some 1/\E.elem 30=some 1/\E.hD 30=some (1,.string ⟨#[]⟩)/\E.ld 31=some none/\E.size 31=some 1/\E.elem 31=some 3/\E.hD 31=some (3,.agg #[.int .i64 0,.int .i64 0,.int .i64 0])/\E.ld 33=some (some 2)/\E.size 33=some 2/\E.zero 33=some (.agg #[.slice none 0 0,.int .i64 0])/\E.place 33 0=some (0,1)/\E.place 33 1=some (1,1)/\E.off 33 0=some 0/\E.off 33 1=some 1:=by and_intros<;>kernel_rfl
theorem Xl:E.ld 34=some none/\E.size 34=some 1/\E.hD 34=some (7,.agg #[.string ⟨#[]⟩,.int .i64 0,.string ⟨#[]⟩,.slice none 0 0,.string ⟨#[]⟩,.slice none 0 0,.int .i64 0])/\E.ld 35=some none/\E.size 35=some 1/\E.elem 35=some 13/\E.ap 35=some (13,160)/\E.hD 35=some (13,.agg #[.string ⟨#[]⟩,.int .i64 0,.slice none 0 0,.slice none 0 0,.int .i64 0,.bool false,.int .i64 0,.slice none 0 0,.bool false,.int .i64 0,.int .i64 0,.int .i64 0,.int .i64 0])/\E.ld 36=some none/\E.size 36=some 1/\E.elem 36=some 4/\E.ap 36=some (4,64)/\E.hD 36=some (4,.agg #[.slice none 0 0,.int .i64 0,.slice none 0 0,.int .i64 0])/\E.ld 37=some none/\E.size 37=some 1/\E.elem 37=some 9/\E.ap 37=some (9,104)/\E.hD 37=some (9,.agg #[.int .i64 0,.int .i64 0,.int .i64 0,.int .i64 0,.int .i64 0,.int .i64 0,.slice none 0 0,.slice none 0 0,.int .i64 0])/\E.ld 39=some (some 9)/\E.size 39=some 9/\E.zero 39=some (.agg #[.slice none 0 0,.slice none 0 0,.int .i64 0,.slice none 0 0,.slice none 0 0,.slice none 0 0,.int .i64 0,.slice none 0 0,.slice none 0 0])/\E.place 39 0=some (0,1)/\E.place 39 1=some (1,2)/\E.place 39 2=some (3,1)/\E.place 39 3=some (4,1)/\E.off 39 0=some 0/\E.off 39 1=some 1/\E.off 39 2=some 3/\E.off 39 3=some 4/\E.off 39 4=some 5/\E.off 39 5=some 6/\E.off 39 6=some 7/\E.off 39 7=some 8/\E.ld 40=some none/\E.size 40=some 1/\E.ld 41=some none/\E.hD 42=some (4,.agg #[.int .i64 0,.int .i64 0,.string ⟨#[]⟩,.slice none 0 0])/\E.elem 45=some 1/\E.hD 45=some (1,.bool false)/\E.ld 46=some none:=by and_intros<;>kernel_rfl
theorem Xm:E.size 46=some 1/\E.zero 46=some (.int .i64 0)/\E.ld 53=some (some 4)/\E.size 53=some 4/\E.zero 53=some (.agg #[.int .i64 0,.int .i64 0,.string ⟨#[]⟩,.slice none 0 0])/\E.place 53 0=some (0,1)/\E.place 53 1=some (1,1)/\E.place 53 2=some (2,1)/\E.off 53 0=some 0/\E.off 53 1=some 1/\E.off 53 2=some 2/\E.ld 59=some none/\E.size 59=some 1/\E.elem 59=some 5/\E.hD 59=some (5,.agg #[.int .i64 0,.int .i64 0,.int .i64 0,.int .i64 0,.int .i64 0])/\E.ld 61=some (some 7)/\E.size 61=some 7/\E.zero 61=some (.agg #[.string ⟨#[]⟩,.int .i64 0,.string ⟨#[]⟩,.slice none 0 0,.string ⟨#[]⟩,.slice none 0 0,.int .i64 0])/\E.place 61 0=some (0,1)/\E.place 61 1=some (1,1)/\E.place 61 2=some (2,1)/\E.place 61 3=some (3,1)/\E.place 61 4=some (4,1)/\E.place 61 5=some (5,2)/\E.off 61 0=some 0/\E.off 61 1=some 1/\E.off 61 2=some 2/\E.off 61 3=some 3/\E.off 61 4=some 4/\E.off 61 5=some 5/\E.ld 71=some none/\E.size 71=some 1/\E.elem 71=some 2/\E.ap 71=some (2,16)/\E.hD 71=some (2,.agg #[.bool false,.int .i64 0])/\E.ld 72=some none/\E.size 72=some 1/\E.elem 72=some 3/\E.hD 72=some (3,.agg #[.int .i64 0,.int .i64 0,.int .i64 0])/\E.ld 74=some (some 5):=by and_intros<;>kernel_rfl
theorem Xn:E.size 74=some 5/\E.zero 74=some (.agg #[.bool false,.int .i64 0,.int .i64 0,.int .i64 0,.int .i64 0])/\E.place 74 1=some (1,1)/\E.place 74 2=some (2,1)/\E.place 74 3=some (3,1)/\E.place 74 4=some (4,1)/\E.off 74 0=some 0/\E.off 74 1=some 1/\E.off 74 2=some 2/\E.off 74 3=some 3/\E.off 74 4=some 4/\E.ld 76=some (some 13)/\E.size 76=some 13/\E.zero 76=some (.agg #[.string ⟨#[]⟩,.int .i64 0,.slice none 0 0,.slice none 0 0,.int .i64 0,.bool false,.int .i64 0,.slice none 0 0,.bool false,.int .i64 0,.int .i64 0,.int .i64 0,.int .i64 0])/\E.place 76 0=some (0,1)/\E.place 76 1=some (1,1)/\E.place 76 2=some (2,1)/\E.place 76 3=some (3,2)/\E.off 76 0=some 0/\E.off 76 1=some 1/\E.off 76 2=some 2/\E.off 76 3=some 3/\E.off 76 4=some 5/\E.off 76 5=some 6/\E.off 76 6=some 7/\E.off 76 7=some 8/\E.ld 79=some (some 2)/\E.size 79=some 2/\E.zero 79=some (.agg #[.bool false,.int .i64 0])/\E.place 79 0=some (0,1)/\E.place 79 1=some (1,1)/\E.off 79 0=some 0/\E.off 79 1=some 1/\E.ld 84=some (some 4)/\E.off 84 0=some 0/\E.off 84 1=some 1/\E.off 84 2=some 2/\E.off 84 3=some 3/\E.ld 87=some (some 5)/\E.off 87 0=some 0:=by and_intros<;>kernel_rfl
theorem Xo:E.off 87 1=some 1/\E.off 87 2=some 2/\E.off 87 3=some 3/\E.off 87 4=some 4/\E.hD 92=some (1,.int .u64 0)/\E.ld 96=some none/\E.ld 97=some none/\E.ld 105=some none/\E.size 105=some 1/\E.zero 105=some (.slice none 0 0)/\E.hD 105=some (1,.int .i64 0)/\E.ld 107=some (some 9)/\E.size 107=some 9/\E.zero 107=some (.agg #[.int .i64 0,.int .i64 0,.int .i64 0,.int .i64 0,.int .i64 0,.int .i64 0,.slice none 0 0,.slice none 0 0,.int .i64 0])/\E.place 107 7=some (7,2)/\E.off 107 0=some 0/\E.off 107 1=some 1/\E.off 107 2=some 2/\E.off 107 3=some 3/\E.off 107 4=some 4/\E.off 107 5=some 5/\E.off 107 6=some 6/\E.off 107 7=some 7/\E.ld 110=some (some 4)/\E.size 110=some 4/\E.zero 110=some (.agg #[.slice none 0 0,.int .i64 0,.slice none 0 0,.int .i64 0])/\E.place 110 0=some (0,1)/\E.place 110 1=some (1,1)/\E.place 110 2=some (2,2)/\E.off 110 0=some 0/\E.off 110 1=some 1/\E.off 110 2=some 2/\E.ld 118=some (some 3)/\E.size 118=some 3/\E.place 118 0=some (0,1)/\E.place 118 1=some (1,1)/\E.place 118 2=some (2,1)/\E.off 118 0=some 0/\E.off 118 1=some 1/\E.off 118 2=some 2:=by and_intros<;>kernel_rfl
theorem Xp:E.ld 123=some none/\E.ld 124=some none/\E.size 124=some 1/\E.zero 124=some (.map none)/\E.ld 127=some none/\E.size 127=some 1/\E.zero 127=some (.pointer none)/\E.ld 130=some (some 8)/\E.size 130=some 8/\E.arr 130=some (8,1)/\E.ld 131=some none/\E.elem 131=some 8/\E.zero 133=some (.agg #[.slice none 0 0,.int .u64 0,.int .u64 0,.int .u64 0,.int .u64 0,.int .u64 0,.int .u64 0,.int .u64 0,.int .u64 0,.int .u64 0,.int .u64 0,.int .u64 0,.int .u64 0,.int .u64 0,.int .u64 0,.int .u64 0,.int .u64 0,.slice none 0 0,.bool false])/\E.place 133 0=some (0,1)/\E.place 133 3=some (17,1)/\E.off 133 0=some 0/\E.off 133 1=some 1/\E.off 133 2=some 9/\E.off 133 3=some 17/\E.off 133 4=some 18/\E.ld 137=some none/\E.size 137=some 1/\E.zero 139=some (.agg #[.slice none 0 0,.slice none 0 0,.int .i64 0,.slice none 0 0,.slice none 0 0,.slice none 0 0,.int .i64 0,.slice none 0 0,.slice none 0 0,.slice none 0 0,.nilFunc])/\E.place 139 0=some (0,9)/\E.off 139 0=some 0/\E.off 139 1=some 9/\E.off 139 2=some 10/\E.ld 150=some (some 3)/\E.size 150=some 3/\E.zero 150=some (.agg #[.int .i64 0,.int .i64 0,.int .i64 0])/\E.place 150 0=some (0,1)/\E.place 150 1=some (1,1)/\E.place 150 2=some (2,1)/\E.off 150 0=some 0/\E.off 150 1=some 1/\E.off 150 2=some 2/\E.ld 152=some (some 5)/\E.size 152=some 5/\E.zero 152=some (.agg #[.int .i64 0,.int .i64 0,.int .i64 0,.int .i64 0,.int .i64 0])/\E.place 152 0=some (0,1):=by and_intros<;>kernel_rfl
theorem Xq:E.place 152 1=some (1,1)/\E.place 152 2=some (2,1)/\E.place 152 3=some (3,1)/\E.place 152 4=some (4,1)/\E.off 152 0=some 0/\E.off 152 1=some 1/\E.off 152 2=some 2/\E.off 152 3=some 3/\E.off 152 4=some 4/\E.ld 171=some none/\E.size 171=some 1/\E.elem 171=some 2/\E.ap 171=some (2,32)/\E.hD 171=some (2,.agg #[.slice none 0 0,.int .i64 0])/\E.zero 173=some (.agg #[.slice none 0 0,.slice none 0 0,.int .i64 0,.slice none 0 0,.slice none 0 0,.slice none 0 0,.int .i64 0,.slice none 0 0,.slice none 0 0,.slice none 0 0])/\E.place 173 0=some (0,9)/\E.off 173 0=some 0/\E.off 173 1=some 9/\E.ld 177=some none/\E.size 177=some 1/\E.zero 177=some (.map none)/\E.ld 179=some (some 2)/\E.size 179=some 2/\E.zero 179=some (.agg #[.int .i64 0,.int .i64 0])/\E.place 179 0=some (0,1)/\E.place 179 1=some (1,1)/\E.arr 179=some (2,1)/\E.ld 181=some none/\E.size 181=some 1/\E.zero 181=some (.map none)/\E.elem 186=some 1/\E.hD 186=some (1,.nilFunc)/\E.ld 188=some none/\E.size 188=some 1/\E.zero 188=some (.nilFunc)/\E.ld 189=some none/\E.size 189=some 1/\E.zero 189=some (.nilFunc)/\E.ld 193=some none/\E.size 193=some 1:=by and_intros<;>kernel_rfl
theorem Xr:E.zero 193=some (.nilFunc)/\E.ld 198=some none/\E.size 198=some 1/\E.zero 198=some (.pointer none)/\E.ld 199=some none/\E.zero 201=some (.agg #[.slice none 0 0,.map none])/\E.place 201 1=some (1,1)/\E.off 201 0=some 0/\E.off 201 1=some 1/\E.ld 206=some (some 3)/\E.zero 206=some (.agg #[.int .i64 0,.int .i64 0,.int .i64 0])/\E.place 206 0=some (0,1)/\E.place 206 1=some (1,1)/\E.place 206 2=some (2,1)/\E.arr 206=some (3,1)/\E.ld 215=some none/\E.ld 230=some none/\E.size 230=some 1/\E.zero 230=some (.map none)/\E.zero 238=some (.agg #[.slice none 0 0,.int .i64 0,.slice none 0 0,.int .i64 0,.slice none 0 0,.int .i64 0])/\E.place 238 0=some (0,2)/\E.place 238 1=some (2,2)/\E.place 238 2=some (4,2)/\E.arr 238=some (3,2)/\E.ld 239=some none/\E.ld 241=some none/\E.size 241=some 1/\E.zero 241=some (.map none)/\E.ld 250=some none/\E.size 250=some 1/\E.zero 250=some (.map none)/\E.ld 251=some none/\E.size 251=some 1/\E.zero 251=some (.nilFunc)/\E.mD 22 9=true/\E.mD 3 5=false/\E.mD 3 57=false/\E.mD 5 3=false:=by and_intros<;>kernel_rfl
attribute [go_sem] Xk Xl Xm Xn Xo Xp Xq Xr
end Go.Sp
end
noncomputable section
open Go Go.aw Go.Proofs
namespace Go.Sp
set_option maxRecDepth 100000
abbrev Br:Type:=Nat×Nat×Nat
def dJ(x:Br):List Value:=[.int .i64 x.1,.int .i64 x.2.1,.int .i64 x.2.2]
def b8(ns:List Br)(n:Nat):Nat:=if n<2 then 64 else(ns[n-2]?.map (·.1)).getD 64
def side(ns:List Br)(n v:Nat)(hi:Bool):Nat:=if b8 ns n=v then(ns[n-2]?.map λx=>if hi then x.2.2 else x.2.1).getD 0 else n
theorem ab0(h:aa)(ns:Value)(r k:Int)(hk:k<2):bS E 119 [.agg #[ns,.int .i64 r],.int .i64 k] h (.int .i64 64) h:=by
 refine mB GL rfl Tryz.ntmps119 Tryz.results119 rfl ?_;simp[go_sem,hk]
theorem ab1(h:aa)(b o len cap:Nat)(r k v:Int)(h2:2<=k)(hk:k<len+2)(hb:b<h.next)(hr:rd h b (o+(k-2).toNat*3)=some (.int .i64 v))(hlen:len<=10000):
 bS E 119 [.agg #[.slice (some ⟨b,o,none⟩) len cap,.int .i64 r],.int .i64 k] h (.int .i64 v) h:=by
 refine mB GL rfl Tryz.ntmps119 Tryz.results119 rfl ?_;have h1:¬k<2:=by omega
 simp(disch:=omega)[go_sem,h1,aD,uF,du,hr];exact(Sub.refl h).new _
theorem xz{h:aa}{sl:Value}{ns:List Br}(r:Int)(n:Nat)(hs:kO 3 h sl (ns.map dJ))(hn:n<ns.length+2)(hlen:ns.length<=10000):bS E 119 [.agg #[sl,.int .i64 r],.int .i64 n] h (.int .i64 (b8 ns n)) h:=by
 by_cases h2:n<2
 . have:=ab0 h sl r n (by omega);rwa[show b8 ns n=64 by simp[b8,h2]]
 . obtain⟨x,hx⟩:∃x,ns[n-2]? =some x:=⟨_,List.getElem?_eq_getElem (by omega)⟩;obtain⟨b,o,c,rfl,hb,hj,hc⟩:=hs.at (j:=n-2) (x:=dJ x) (by simp[hx]);have:=ab1 h b o (ns.map dJ).length c r n x.1 (by omega) (by simp;omega) hb (by rw[show((n:Int)-2).toNat=n-2 by omega];exact hc 0 _ rfl) (by simpa using hlen);rwa[show b8 ns n=x.1 by simp[b8,h2,hx]]
theorem ab2{h:aa}{sl:Value}{ns:List Br}(r:Int)(n v:Nat)(hs:kO 3 h sl (ns.map dJ))(hn:n<ns.length+2)(hlen:ns.length<=10000)(hv:b8 ns n≠v):
 bS E 177 [.agg #[sl,.int .i64 r],.int .i64 n,.int .i64 v] h (.tuple #[.int .i64 n,.int .i64 n]) h:=by
 refine mB GN rfl Tryz.ntmps177 Tryz.results177 rfl ?_;simp(disch:=omega)[go_sem];refine KC.mk (xz r n (hs.sub ((Sub.refl h).new _)) hn hlen) ?_;have ab:((b8 ns n:Nat):Int)≠v:=by omega
 simp(disch:=omega)[go_sem,ab];exact(Sub.refl h).new _
theorem ab3{h:aa}{sl:Value}{ns:List Br}(r:Int)(n v:Nat)(hs:kO 3 h sl (ns.map dJ))(hn:n<ns.length+2)(hlen:ns.length<=10000)(h2:2<=n){x:Br}(hx:ns[n-2]? =some x)(hv:x.1=v):
 bS E 177 [.agg #[sl,.int .i64 r],.int .i64 n,.int .i64 v] h (.tuple #[.int .i64 x.2.1,.int .i64 x.2.2]) h:=by
 have hl:b8 ns n=v:=by simp[b8,hx,hv];omega
 obtain⟨b,o,c,rfl,hb,hj,hc⟩:=hs.at (j:=n-2) (x:=dJ x) (by simp[hx]);have c1:=hc 1 _ rfl;have c2:=hc 2 _ rfl;simp only[List.length_map]at hj hs⊢;have e1:((n:Int)-2).toNat=n-2:=by omega
 refine mB GN rfl Tryz.ntmps177 Tryz.results177 rfl ?_;simp(disch:=omega)[go_sem];refine KC.mk (xz r n (hs.sub ((Sub.refl h).new _)) hn hlen) ?_;simp(disch:=omega)[go_sem,hl];refine lC [⟨.pure,0,none⟩,⟨.read,1,none⟩,⟨.pure,0,none⟩,⟨.pure,4,none⟩,⟨.pure,15,none⟩,⟨.pure,31,none⟩,⟨.read,63,none⟩,⟨.pure,0,none⟩,⟨.read,128,none⟩,⟨.pure,0,none⟩,⟨.pure,512,none⟩,⟨.pure,1920,none⟩,⟨.pure,3968,none⟩,⟨.read,8064,none⟩,⟨.pure,127,none⟩,⟨.pure,32767,none⟩] (by kernel_rfl) 0 rfl ?_;simp(disch:=omega)[go_sem,aD,uF,du,e1,c1,c2];exact(Sub.refl h).new _
theorem C7{h:aa}{sl:Value}{ns:List Br}(r:Int)(n v:Nat)(hs:kO 3 h sl (ns.map dJ))(hn:n<ns.length+2)(hlen:ns.length<=10000)(hv:v<64):
 bS E 177 [.agg #[sl,.int .i64 r],.int .i64 n,.int .i64 v] h (.tuple #[.int .i64 (side ns n v false),.int .i64 (side ns n v true)]) h:=by
 by_cases hl:b8 ns n=v
 . have h2:2<=n:=by
    rcases Nat.lt_or_ge n 2 with h2|h2
    . simp[b8,h2]at hl;omega
    . exact h2
   obtain⟨x,hx⟩:∃x,ns[n-2]? =some x:=⟨_,List.getElem?_eq_getElem (by omega)⟩;have h3:¬n<2:=by omega
   have:=ab3 r n v hs hn hlen h2 hx (by simpa[b8,h3,hx]using hl);simpa[side,hl,hx]using this
 . have:=ab2 r n v hs hn hlen hl;simpa[side,hl]using this
end Go.Sp
end
noncomputable section
open Go Go.aw Go.Proofs
namespace Go.Sp
set_option maxRecDepth 100000
theorem mO(P:Program){α β:Type}(s:Sem α)(k:α->Sem β):bY P (s>>=k)=(bY P s).bind λa=>bY P (k a):=by
 induction s with
 |pure a=>rfl
 |program k' ih=>exact ih P
 |_=>rfl
theorem vh(P:Program)(t:TypeId){d:TypeDesc}(h:P.underlying t=some d):bY P (underlying t)=some d:=by
 simp only[underlying,mO];show bY P (match P.underlying t with|some d=>pure d|none=>stuck "no such type" :Sem TypeDesc)=some d;rw[h];rfl
theorem vi(P:Program):bY P program=some P:=rfl
theorem tz(P:Program){α:Type}(a:α):bY P (pure a)=some a:=rfl
theorem eq_int(d:Nat)(t:TypeId)(k:IntKind)(a b:Int)(h:Tryz.prog.underlying t=some (.int k)):bY Tryz.prog (Op.equalIn (d+1) t (.int .i64 a) (.int .i64 b))=some (a==b):=by
 rw[Op.equalIn];simp only[mO,vh _ _ h,Option.bind_some];rfl
theorem ab4:bY Tryz.prog (isAgg 3)=some false:=by kernel_rfl
theorem IP:bY Tryz.prog (sizeOf 3)=some 1:=by kernel_rfl
theorem zy(cs:Array Value)(o:Nat):bY Tryz.prog (part 3 cs o)=cs[o]? :=by
 unfold part;simp only[mO,ab4,Option.bind_some,Bool.false_eq_true,if_false];cases cs[o]? <;>rfl
theorem ab5(d:Nat)(a b c a' b' c':Int):bY Tryz.prog (Op.equalIn (d+1+1) 118 (.agg #[.int .i64 a,.int .i64 b,.int .i64 c]) (.agg #[.int .i64 a',.int .i64 b',.int .i64 c']))=some (decide (a=a')&&(decide (b=b')&&decide (c=c'))):=by
 have hs:Tryz.prog.stoodInHeld 118=false:=by kernel_rfl
 rw[Op.equalIn];have e0:=eq_int d 3 .i64 a a' Tryz.underlying3;have e1:=eq_int d 3 .i64 b b' Tryz.underlying3;have e2:=eq_int d 3 .i64 c c' Tryz.underlying3;by_cases h1:a=a'<;>by_cases h2:b=b'<;>by_cases h3:c=c'<;>
  simp[h1,h2,h3,mO,vh _ _ Tryz.underlying118,vi,hs,tz,zy,eq_int d 3 .i64 _ _ Tryz.underlying3]
theorem ab6(d:Nat)(a b c a' b' c':Int):bY Tryz.prog (Op.equalIn (d+1+1) 206 (.agg #[.int .i64 a,.int .i64 b,.int .i64 c]) (.agg #[.int .i64 a',.int .i64 b',.int .i64 c']))=some (decide (a=a')&&(decide (b=b')&&decide (c=c'))):=by
 rw[Op.equalIn];by_cases h1:a=a'<;>by_cases h2:b=b'<;>by_cases h3:c=c'<;>
  simp[h1,h2,h3,mO,vh _ _ Tryz.underlying206,vi,tz,zy,IP,eq_int d 3 .i64 _ _ Tryz.underlying3,List.range',Std.Legacy.Range.forIn_eq_forIn_range',Std.Legacy.Range.size]
theorem zz:∃d,Op.maxDepth=d+1+1:=⟨9998,rfl⟩
theorem IQ(a b c a' b' c':Int):bY Tryz.prog (Op.equal 118 (.agg #[.int .i64 a,.int .i64 b,.int .i64 c]) (.agg #[.int .i64 a',.int .i64 b',.int .i64 c']))=some (decide (a=a')&&(decide (b=b')&&decide (c=c'))):=by
 obtain⟨d,hd⟩:=zz;unfold Op.equal;rw[hd];exact ab5 d a b c a' b' c'
theorem ab7(a b c a' b' c':Int):bY Tryz.prog (Op.equal 206 (.agg #[.int .i64 a,.int .i64 b,.int .i64 c]) (.agg #[.int .i64 a',.int .i64 b',.int .i64 c']))=some (decide (a=a')&&(decide (b=b')&&decide (c=c'))):=by
 obtain⟨d,hd⟩:=zz;unfold Op.equal;rw[hd];exact ab6 d a b c a' b' c'
theorem ab9:∃fs,E.under 118=some (.struct fs):=by
 have h:(E.under 118).isSome=true:=by kernel_rfl
 obtain⟨d,hd⟩:=Option.isSome_iff_exists.1 h;have:=(kN []).under 118 d hd;rw[show(wG []).P=Tryz.prog from rfl,Tryz.underlying118]at this;cases this;exact⟨_,hd⟩
theorem C8(x y:Nat):decide ((x:Int)=(y:Int))=decide (x=y):=decide_eq_decide.2 Int.ofNat_inj
theorem aca:E.under 206=some (.array 3 3):=by kernel_rfl
theorem u3:E.under 3=some (.int .i64):=by kernel_rfl
theorem C9:E.under 199=some (.map 118 3):=by kernel_rfl
theorem Da:E.under 250=some (.map 206 3):=by kernel_rfl
def qj(x:Br):Value:=.agg #[.int .i64 x.1,.int .i64 x.2.1,.int .i64 x.2.2]
def oS(x:Nat×Nat×Nat):Value:=.agg #[.int .i64 x.1,.int .i64 x.2.1,.int .i64 x.2.2]
def iC(n:Nat):Value:=.int .i64 n
theorem Db:kP E 118 qj:=by
 refine⟨?_,λk=>rfl,λk b=>⟨(),by kernel_rfl⟩,λa b=> ?_,λk=>by simp[qj,Instr.sameBits]⟩
 . obtain⟨fs,h⟩:=ab9;exact⟨_,h,λk=>rfl⟩
 . obtain⟨a1,a2,a3⟩:=a;obtain⟨b1,b2,b3⟩:=b;show bY Tryz.prog (Op.equal 118 (qj _) (qj _))=_;rw[qj,qj,IQ];congr 1;simp only[C8,Prod.mk.injEq,Bool.decide_and]
theorem Dc:kP E 206 oS:=by
 refine⟨⟨_,aca,λk=>rfl⟩,λk=>rfl,λk b=>⟨(),by kernel_rfl⟩,λa b=> ?_,λk=>by simp[oS,Instr.sameBits]⟩;obtain⟨a1,a2,a3⟩:=a;obtain⟨b1,b2,b3⟩:=b;show bY Tryz.prog (Op.equal 206 (oS _) (oS _))=_;rw[oS,oS,ab7];congr 1;simp only[C8,Prod.mk.injEq,Bool.decide_and]
theorem vj:kP E 3 iC:=by
 refine⟨⟨_,u3,λk=>rfl⟩,λk=>rfl,λk b=>⟨(),by kernel_rfl⟩,λa b=> ?_,λk=>by simp[iC,Instr.sameBits]⟩;simp only[kI,iC,decide_true,cond_true];congr 1;exact C8 a b
end Go.Sp
end
noncomputable section
open Go Go.aw Go.Proofs
namespace Go.Sp
set_option maxRecDepth 100000
theorem zC:yH E 31 3 24:=by
 have h:(E.under 31).isSome=true:=by kernel_rfl
 obtain⟨d,hd⟩:=Option.isSome_iff_exists.1 h;have:=(kN []).under 31 d hd;rw[show(wG []).P=Tryz.prog from rfl,Tryz.underlying31]at this;cases this;exact⟨⟨118,_,hd,by kernel_rfl,GA,by kernel_rfl,rfl⟩,by decide⟩
def KN(N:List Br):List (Br×Nat):=N.zipIdx.map λp=>(p.1,p.2+2)
theorem acr(N:List Br)(x:Br):KN (N++[x])=KN N++[(x,N.length+2)]:=by
 simp[KN,List.zipIdx_append]
def look(N:List Br)(x:Br):Option Nat:=bf (KN N) x
structure iq(h:aa)(B M i:Nat)(N:List Br):Prop where
 aW:∃sl,h.get B=some (.row [sl,.map (some M)] true 0)/\((N=[]/\sl=.slice none 0 0)\/(N≠[]/\sl=.slice (some ⟨i,0,none⟩) N.length N.length/\h.get i=some (.row (N.flatMap dJ) true 3)/\i<h.next/\i≠B/\i≠M))
 map:∃es clock,h.get M=some (.map es clock)/\kh qj iC es (KN N)
 ne:B≠M
 lt:B<h.next/\M<h.next
structure Dh(B M i:Nat)(h g:aa):Prop where
 next:h.next<=g.next
 get:∀j o,j<h.next->j≠B->j≠M->j≠i->h.get j=some o->g.get j=some o
theorem Ja(N:List Br):(N.flatMap dJ).length=N.length*3:=by
 induction N with
 |nil=>rfl
 |cons x r ih=>simp only[List.flatMap_cons,List.length_append,ih,List.length_cons,dJ,List.length_nil];omega
theorem acs(h:aa)(B:Nat)(v l:Int):bS E 178 [.pointer (some ⟨B,0,none⟩),.int .i64 v,.int .i64 l,.int .i64 l] h (.int .i64 l) h:=by
 refine mB y6 rfl Tryz.ntmps178 Tryz.results178 rfl ?_;simp[go_sem]
theorem acu{h:aa}{B M i:Nat}{N:List Br}(hb:iq h B M i N){v l u n:Nat}(ay:l≠u)(hk:look N (v,l,u)=some n):
 bS E 178 [.pointer (some ⟨B,0,none⟩),.int .i64 v,.int .i64 l,.int .i64 u] h (.int .i64 n) h:=by
 obtain⟨sl,hB,_⟩:=hb.aW;obtain⟨es,clock,hM,ao⟩:=hb.map;have ad:=yG Db C9 ao (v,l,u) true clock hk;simp only[qj,iC,cond_true]at ad;have ae:¬(l:Int)=u:=by omega
 obtain⟨az,aB⟩:=hb.lt;have r1:rd h B 1=some (.map (some M)):=cZ (o:=1) hB;refine mB y6 rfl Tryz.ntmps178 Tryz.results178 rfl ?_;simp(disch:=omega)[go_sem,ae];refine lC [⟨.pure,0,none⟩,⟨.pure,1,none⟩,⟨.pure,3,none⟩,⟨.read,7,none⟩,⟨.read,0,none⟩,⟨.read,31,none⟩,⟨.pure,63,none⟩,⟨.pure,127,none⟩,⟨.pure,127,none⟩,⟨.pure,255,none⟩,⟨.pure,1023,none⟩] (by kernel_rfl) 0 rfl ?_;simp(disch:=first|omega|(simp only[aa.aZ,aa.aS,bL];omega)) [go_sem,du,ep,bI,bq,r1,hM,ad];exact((Sub.refl h).new _).set (Nat.le_refl _) _
def acv(h:aa)(B M i:Nat)(N:List Br)(x:Br)(v:Value)(g:aa):Prop:=v=.int .i64 (N.length+2:Nat)/\∃i',iq g B M i' (N++[x])/\Dh B M i h g/\h.next<=i'
theorem acw{h:aa}{B M i:Nat}{N:List Br}(hb:iq h B M i N){v l u:Nat}(ay:l≠u)(hk:look N (v,l,u)=none)(hN:N.length<=10000):
 ∃H' i',bS E 178 [.pointer (some ⟨B,0,none⟩),.int .i64 v,.int .i64 l,.int .i64 u] h (.int .i64 (N.length+2:Nat)) H'/\iq H' B M i' (N++[(v,l,u)])/\Dh B M i h H'/\h.next<=i':=by
 suffices hs:∃v' H',bS E 178 [.pointer (some ⟨B,0,none⟩),.int .i64 v,.int .i64 l,.int .i64 u] h v' H'/\acv h B M i N (v,l,u) v' H' by
  obtain⟨v',H',h1,rfl,i',h2⟩:=hs;exact⟨H',i',h1,h2⟩
 obtain⟨sl,hB,aC⟩:=hb.aW;obtain⟨es,clock,hM,ao⟩:=hb.map;have ad:=Bw Db C9 ao (v,l,u) true clock yY rfl hk;obtain⟨au,ab,ai,af⟩:=wH Db (vf:=iC) C9 ao (v,l,u) clock (N.length+2);rw[qV hk,<-acr]at af;have hw:IntKind.i64.wrap ((N.length:Int)+1+1)=(N.length:Int)+2:=aD (by omega) (by omega);simp only[qj,iC,cond_true,Int.natCast_add,Int.cast_ofNat_Int]at ad ai;have ae:¬(l:Int)=u:=by omega
 obtain⟨az,aB⟩:=hb.lt;have av:=hb.ne;have r1:rd h B 1=some (.map (some M)):=cZ (o:=1) hB;have r0:rd h B 0=some sl:=cZ (o:=0) hB;rcases aC with⟨rfl,rfl⟩|⟨aE,rfl,hi,aF,dS,pq⟩
 . refine run y6 rfl Tryz.ntmps178 Tryz.results178 ?_;simp(disch:=omega)[go_sem,ae];refine lC [⟨.pure,0,none⟩,⟨.pure,1,none⟩,⟨.pure,3,none⟩,⟨.read,7,none⟩,⟨.read,0,none⟩,⟨.read,31,none⟩,⟨.pure,63,none⟩,⟨.pure,127,none⟩,⟨.pure,127,none⟩,⟨.pure,255,none⟩,⟨.pure,1023,none⟩] (by kernel_rfl) 0 rfl ?_;simp(disch:=first|omega|(simp only[aa.aZ,aa.aS,bL];omega)) [go_sem,du,ep,bI,bq,r1,hM,ad];refine lC [⟨.pure,0,none⟩,⟨.pure,0,none⟩,⟨.pure,2,none⟩,⟨.pure,6,none⟩,⟨.read,14,none⟩,⟨.read,0,none⟩,⟨.alloc,32,none⟩,⟨.effect,126,none⟩,⟨.pure,255,none⟩,⟨.pure,511,none⟩,⟨.effect,1023,none⟩] (by kernel_rfl) 1 rfl ?_;simp(disch:=first|omega|(simp only[aa.aZ,aa.aS,bL];omega)) [go_sem,du,ep,bI,bq,r0,r1,hM,ad];rw[append_nil zC (yI (eD _ _ _) rfl) rfl (by decide) (by decide)];simp(disch:=first|omega|(simp only[aa.aZ,aa.aS,bL];omega)) [go_sem,du,ep,bI,bq,hB,hM,ad];refine lC [⟨.pure,0,none⟩,⟨.pure,1,none⟩,⟨.pure,3,none⟩,⟨.read,7,none⟩,⟨.read,0,none⟩,⟨.pure,0,none⟩,⟨.effect,63,none⟩] (by kernel_rfl) 0 rfl ?_;replace ai:oC E 199 (.agg #[.int .i64 v,.int .i64 l,.int .i64 u]) (.int .i64 2) es clock=some (.map au ab):=ai;simp(disch:=first|omega|(simp only[aa.aZ,aa.aS,bL];omega)) [go_sem,aD,du,ep,bI,bq,hB,hM,ad,ai];refine⟨rfl,h.next+1+1,⟨⟨_, ?_,.inr ⟨by simp,rfl, ?_, ?_, ?_, ?_⟩⟩,⟨au,ab, ?_,af⟩,av, ?_, ?_⟩,⟨?_,λj o hj h1 h2 h3 ho=> ?_⟩, ?_⟩
   all_goals try simp(disch:=first|omega|(simp only[aa.aZ,aa.aS,bL];omega)) [go_sem,dC,bI,bq,dJ]
   all_goals first|omega|exact ho|(simp only[aa.dT,aa.aZ,aa.aS,bL,if_true];done)|skip
 . refine run y6 rfl Tryz.ntmps178 Tryz.results178 ?_;simp(disch:=omega)[go_sem,ae];refine lC [⟨.pure,0,none⟩,⟨.pure,1,none⟩,⟨.pure,3,none⟩,⟨.read,7,none⟩,⟨.read,0,none⟩,⟨.read,31,none⟩,⟨.pure,63,none⟩,⟨.pure,127,none⟩,⟨.pure,127,none⟩,⟨.pure,255,none⟩,⟨.pure,1023,none⟩] (by kernel_rfl) 0 rfl ?_;simp(disch:=first|omega|(simp only[aa.aZ,aa.aS,bL];omega)) [go_sem,du,ep,bI,bq,r1,hM,ad];refine lC [⟨.pure,0,none⟩,⟨.pure,0,none⟩,⟨.pure,2,none⟩,⟨.pure,6,none⟩,⟨.read,14,none⟩,⟨.read,0,none⟩,⟨.alloc,32,none⟩,⟨.effect,126,none⟩,⟨.pure,255,none⟩,⟨.pure,511,none⟩,⟨.effect,1023,none⟩] (by kernel_rfl) 1 rfl ?_;simp(disch:=first|omega|(simp only[aa.aZ,aa.aS,bL];omega)) [go_sem,du,ep,bI,bq,r0,r1,hM,ad,hi];rw[FV zC (yI (eD _ _ _) rfl) rfl (by decide) (i:=i) (cs:=N.flatMap dJ) (by simp(disch:=first|omega|(simp only[aa.aZ,aa.aS,bL];omega)) [go_sem,bI,bq,hi]) (Ja N) (by rfl) (by omega)];simp(disch:=first|omega|(simp only[aa.aZ,aa.aS,bL];omega)) [go_sem,du,ep,bI,bq,hB,hM,ad];rw[show(N.length:Int)+2=N.length+1+1 by omega]at ai;refine lC [⟨.pure,0,none⟩,⟨.pure,1,none⟩,⟨.pure,3,none⟩,⟨.read,7,none⟩,⟨.read,0,none⟩,⟨.pure,0,none⟩,⟨.effect,63,none⟩] (by kernel_rfl) 0 rfl ?_;simp(disch:=first|omega|(simp only[aa.aZ,aa.aS,bL];omega)) [go_sem,aD,du,ep,bI,bq,hB,hM,ad,ai];refine⟨congrArg (Value.int .i64) (by omega),h.next+1+1,⟨⟨_, ?_,.inr ⟨by simp,rfl, ?_, ?_, ?_, ?_⟩⟩,⟨au,ab, ?_,af⟩,av, ?_, ?_⟩,⟨?_,λj o hj h1 h2 h3 ho=> ?_⟩, ?_⟩
   all_goals try simp(disch:=first|omega|(simp only[aa.aZ,aa.aS,bL];omega)) [go_sem,dC,bI,bq,dJ]
   all_goals first|omega|exact ho|(simp only[aa.dT,aa.aZ,aa.aS,bL,if_true];done)|skip
end Go.Sp
end

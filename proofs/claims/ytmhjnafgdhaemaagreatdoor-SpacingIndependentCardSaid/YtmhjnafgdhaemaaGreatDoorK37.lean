/- SpacingIndependent: parts of its proof. -/
import Derived.Test.YtmhjnafgdhaemaaGreatDoorK26
open List renaming range->qe
set_option linter.all false
set_option maxRecDepth 100000
noncomputable section
open Go Go.au Go.Proofs
namespace Go.Sp
theorem Yn:∀p∈((qe 256).drop (13*0)).take 13,gB p:=bI (by kernel_rfl)
theorem Yo:∀p∈((qe 256).drop (13*1)).take 13,gB p:=bI (by kernel_rfl)
theorem Yp:∀p∈((qe 256).drop (13*2)).take 13,gB p:=bI (by kernel_rfl)
theorem Yq:∀p∈((qe 256).drop (13*3)).take 13,gB p:=bI (by kernel_rfl)
end Go.Sp
end

/- SpacingIndependent: parts of its proof. -/
import Derived.Test.YtmhjnafgdhaemaaGreatDoorK26
open List renaming range->qe
set_option linter.all false
set_option maxRecDepth 100000
noncomputable section
open Go Go.au Go.Proofs
namespace Go.Sp
theorem Yv:∀p∈((qe 256).drop (13*8)).take 13,gB p:=bI (by kernel_rfl)
theorem Yw:∀p∈((qe 256).drop (13*9)).take 13,gB p:=bI (by kernel_rfl)
theorem Yx:∀p∈((qe 256).drop (13*10)).take 13,gB p:=bI (by kernel_rfl)
theorem Yy:∀p∈((qe 256).drop (13*11)).take 13,gB p:=bI (by kernel_rfl)
end Go.Sp
end

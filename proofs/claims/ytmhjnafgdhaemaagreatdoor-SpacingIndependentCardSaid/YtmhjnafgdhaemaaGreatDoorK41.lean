/- SpacingIndependent: parts of its proof. -/
import Derived.Test.YtmhjnafgdhaemaaGreatDoorK26
open List renaming range->qe
set_option linter.all false
set_option maxRecDepth 100000
noncomputable section
open Go Go.au Go.Proofs
namespace Go.Sp
theorem YD:∀p∈((qe 256).drop (13*16)).take 13,gB p:=bI (by kernel_rfl)
theorem YE:∀p∈((qe 256).drop (13*17)).take 13,gB p:=bI (by kernel_rfl)
theorem YF:∀p∈((qe 256).drop (13*18)).take 13,gB p:=bI (by kernel_rfl)
theorem YG:∀p∈((qe 256).drop (13*19)).take 13,gB p:=bI (by kernel_rfl)
end Go.Sp
end

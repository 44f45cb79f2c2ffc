/- SpacingIndependent: parts of its proof. -/
import Derived.Test.YtmhjnafgdhaemaaGreatDoorK26
open List renaming range->qe
set_option linter.all false
set_option maxRecDepth 100000
noncomputable section
open Go Go.au Go.Proofs
namespace Go.Sp
theorem Yr:∀p∈((qe 256).drop (13*4)).take 13,gB p:=bI (by kernel_rfl)
theorem Ys:∀p∈((qe 256).drop (13*5)).take 13,gB p:=bI (by kernel_rfl)
theorem Yt:∀p∈((qe 256).drop (13*6)).take 13,gB p:=bI (by kernel_rfl)
theorem Yu:∀p∈((qe 256).drop (13*7)).take 13,gB p:=bI (by kernel_rfl)
end Go.Sp
end

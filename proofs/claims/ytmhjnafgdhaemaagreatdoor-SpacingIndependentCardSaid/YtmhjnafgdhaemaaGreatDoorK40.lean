/- SpacingIndependent: parts of its proof. -/
import Derived.Test.YtmhjnafgdhaemaaGreatDoorK26
open List renaming range->qe
set_option linter.all false
set_option maxRecDepth 100000
noncomputable section
open Go Go.au Go.Proofs
namespace Go.Sp
theorem Yz:∀p∈((qe 256).drop (13*12)).take 13,gB p:=bI (by kernel_rfl)
theorem YA:∀p∈((qe 256).drop (13*13)).take 13,gB p:=bI (by kernel_rfl)
theorem YB:∀p∈((qe 256).drop (13*14)).take 13,gB p:=bI (by kernel_rfl)
theorem YC:∀p∈((qe 256).drop (13*15)).take 13,gB p:=bI (by kernel_rfl)
end Go.Sp
end

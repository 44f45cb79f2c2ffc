/- SpacingIndependent: parts of its proof. -/
import Derived.Test.YtmhjnafgdhaemaaGreatDoorK26
set_option linter.all false
set_option maxRecDepth 100000
noncomputable section
open Go Go.au Go.Proofs
namespace Go.Sp
theorem XF:∀p∈(gy.drop (14*0)).take 14,gz p:=bI (by kernel_rfl)
theorem XG:∀p∈(gy.drop (14*1)).take 14,gz p:=bI (by kernel_rfl)
theorem XH:∀p∈(gy.drop (14*2)).take 14,gz p:=bI (by kernel_rfl)
theorem XI:∀p∈(gy.drop (14*3)).take 14,gz p:=bI (by kernel_rfl)
end Go.Sp
end

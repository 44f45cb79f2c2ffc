/- SpacingIndependent: parts of its proof. -/
import Derived.Test.YtmhjnafgdhaemaaGreatDoorK26
set_option linter.all false
set_option maxRecDepth 100000
noncomputable section
open Go Go.au Go.Proofs
namespace Go.Sp
theorem XN:∀p∈(gy.drop (14*8)).take 14,gz p:=bI (by kernel_rfl)
theorem XO:∀p∈(gy.drop (14*9)).take 14,gz p:=bI (by kernel_rfl)
theorem XP:∀p∈(gy.drop (14*10)).take 14,gz p:=bI (by kernel_rfl)
theorem XQ:∀p∈(gy.drop (14*11)).take 14,gz p:=bI (by kernel_rfl)
end Go.Sp
end

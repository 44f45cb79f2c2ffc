/- SpacingIndependent: parts of its proof. -/
import Derived.Test.YtmhjnafgdhaemaaGreatDoorK26
set_option linter.all false
set_option maxRecDepth 100000
noncomputable section
open Go Go.au Go.Proofs
namespace Go.Sp
theorem XV:∀p∈(gy.drop (14*16)).take 14,gz p:=bI (by kernel_rfl)
theorem XW:∀p∈(gy.drop (14*17)).take 14,gz p:=bI (by kernel_rfl)
theorem XX:∀p∈(gy.drop (14*18)).take 14,gz p:=bI (by kernel_rfl)
theorem XY:∀p∈(gy.drop (14*19)).take 14,gz p:=bI (by kernel_rfl)
end Go.Sp
end

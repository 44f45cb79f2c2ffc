/- SpacingIndependent: parts of its proof. -/
import Derived.Test.YtmhjnafgdhaemaaGreatDoorK26
set_option linter.all false
set_option maxRecDepth 100000
noncomputable section
open Go Go.au Go.Proofs
namespace Go.Sp
theorem XJ:∀p∈(gy.drop (14*4)).take 14,gz p:=bI (by kernel_rfl)
theorem XK:∀p∈(gy.drop (14*5)).take 14,gz p:=bI (by kernel_rfl)
theorem XL:∀p∈(gy.drop (14*6)).take 14,gz p:=bI (by kernel_rfl)
theorem XM:∀p∈(gy.drop (14*7)).take 14,gz p:=bI (by kernel_rfl)
end Go.Sp
end

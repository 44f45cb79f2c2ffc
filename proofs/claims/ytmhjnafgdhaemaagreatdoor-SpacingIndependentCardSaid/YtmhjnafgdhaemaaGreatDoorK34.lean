/- SpacingIndependent: parts of its proof. -/
import Derived.Test.YtmhjnafgdhaemaaGreatDoorK26
set_option linter.all false
set_option maxRecDepth 100000
noncomputable section
open Go Go.au Go.Proofs
namespace Go.Sp
theorem Yb:∀p∈(dW.drop (14*8)).take 14,gA p:=bI (by kernel_rfl)
theorem Yc:∀p∈(dW.drop (14*9)).take 14,gA p:=bI (by kernel_rfl)
theorem Yd:∀p∈(dW.drop (14*10)).take 14,gA p:=bI (by kernel_rfl)
theorem Ye:∀p∈(dW.drop (14*11)).take 14,gA p:=bI (by kernel_rfl)
end Go.Sp
end

/- SpacingIndependent: parts of its proof. -/
import Derived.Test.YtmhjnafgdhaemaaGreatDoorK26
set_option linter.all false
set_option maxRecDepth 100000
noncomputable section
open Go Go.au Go.Proofs
namespace Go.Sp
theorem XZ:∀p∈(dW.drop (14*0)).take 14,gA p:=bI (by kernel_rfl)
theorem X0:∀p∈(dW.drop (14*1)).take 14,gA p:=bI (by kernel_rfl)
theorem X5:∀p∈(dW.drop (14*2)).take 14,gA p:=bI (by kernel_rfl)
theorem X6:∀p∈(dW.drop (14*3)).take 14,gA p:=bI (by kernel_rfl)
end Go.Sp
end

/- SpacingIndependent: parts of its proof. -/
import Derived.Test.YtmhjnafgdhaemaaGreatDoorK26
set_option linter.all false
set_option maxRecDepth 100000
noncomputable section
open Go Go.au Go.Proofs
namespace Go.Sp
theorem X7:∀p∈(dW.drop (14*4)).take 14,gA p:=bI (by kernel_rfl)
theorem X8:∀p∈(dW.drop (14*5)).take 14,gA p:=bI (by kernel_rfl)
theorem X9:∀p∈(dW.drop (14*6)).take 14,gA p:=bI (by kernel_rfl)
theorem Ya:∀p∈(dW.drop (14*7)).take 14,gA p:=bI (by kernel_rfl)
end Go.Sp
end

/- SpacingIndependent: parts of its proof. -/
import Derived.Test.YtmhjnafgdhaemaaGreatDoorK26
set_option linter.all false
set_option maxRecDepth 100000
noncomputable section
open Go Go.au Go.Proofs
namespace Go.Sp
theorem Yf:∀p∈(dW.drop (14*12)).take 14,gA p:=bI (by kernel_rfl)
theorem Yg:∀p∈(dW.drop (14*13)).take 14,gA p:=bI (by kernel_rfl)
theorem Yh:∀p∈(dW.drop (14*14)).take 14,gA p:=bI (by kernel_rfl)
theorem Yi:∀p∈(dW.drop (14*15)).take 14,gA p:=bI (by kernel_rfl)
end Go.Sp
end

/- SpacingIndependent: parts of its proof. -/
import Derived.Test.YtmhjnafgdhaemaaGreatDoorK26
set_option linter.all false
set_option maxRecDepth 100000
noncomputable section
open Go Go.au Go.Proofs
namespace Go.Sp
theorem Yj:∀p∈(dW.drop (14*16)).take 14,gA p:=bI (by kernel_rfl)
theorem Yk:∀p∈(dW.drop (14*17)).take 14,gA p:=bI (by kernel_rfl)
theorem Yl:∀p∈(dW.drop (14*18)).take 14,gA p:=bI (by kernel_rfl)
theorem Ym:∀p∈(dW.drop (14*19)).take 14,gA p:=bI (by kernel_rfl)
end Go.Sp
end

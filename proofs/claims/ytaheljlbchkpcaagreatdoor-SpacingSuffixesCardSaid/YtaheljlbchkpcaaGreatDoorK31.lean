/- SpacingSuffixes: parts of its proof (ClFB ClKB). -/
import Derived.Test.YtaheljlbchkpcaaGreatDoorK24
set_option linter.unusedVariables false
set_option linter.unusedSimpArgs false
noncomputable section
open Go Go.aw Go.Proofs
namespace Go.Sp
set_option maxRecDepth 100000
theorem aaZ:∀p∈(eF.drop (14*4)).take 14,ij p:=bO (by kernel_rfl)
theorem aa0:∀p∈(eF.drop (14*5)).take 14,ij p:=bO (by kernel_rfl)
theorem aa1:∀p∈(eF.drop (14*6)).take 14,ij p:=bO (by kernel_rfl)
theorem aa2:∀p∈(eF.drop (14*7)).take 14,ij p:=bO (by kernel_rfl)
end Go.Sp
end
noncomputable section
open Go Go.aw Go.Proofs
namespace Go.Sp
set_option maxRecDepth 100000
theorem abj:∀p∈((List.range 256).drop (13*4)).take 13,ik p:=bO (by kernel_rfl)
theorem abk:∀p∈((List.range 256).drop (13*5)).take 13,ik p:=bO (by kernel_rfl)
theorem abl:∀p∈((List.range 256).drop (13*6)).take 13,ik p:=bO (by kernel_rfl)
theorem abm:∀p∈((List.range 256).drop (13*7)).take 13,ik p:=bO (by kernel_rfl)
end Go.Sp
end

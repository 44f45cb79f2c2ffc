/- SpacingSuffixes: parts of its proof (ClFC ClKC). -/
import Derived.Test.YtaheljlbchkpcaaGreatDoorK24
set_option linter.unusedVariables false
set_option linter.unusedSimpArgs false
noncomputable section
open Go Go.aw Go.Proofs
namespace Go.Sp
set_option maxRecDepth 100000
theorem aa3:∀p∈(eF.drop (14*8)).take 14,ij p:=bO (by kernel_rfl)
theorem aa4:∀p∈(eF.drop (14*9)).take 14,ij p:=bO (by kernel_rfl)
theorem aa5:∀p∈(eF.drop (14*10)).take 14,ij p:=bO (by kernel_rfl)
theorem aa6:∀p∈(eF.drop (14*11)).take 14,ij p:=bO (by kernel_rfl)
end Go.Sp
end
noncomputable section
open Go Go.aw Go.Proofs
namespace Go.Sp
set_option maxRecDepth 100000
theorem abn:∀p∈((List.range 256).drop (13*8)).take 13,ik p:=bO (by kernel_rfl)
theorem abo:∀p∈((List.range 256).drop (13*9)).take 13,ik p:=bO (by kernel_rfl)
theorem abp:∀p∈((List.range 256).drop (13*10)).take 13,ik p:=bO (by kernel_rfl)
theorem abq:∀p∈((List.range 256).drop (13*11)).take 13,ik p:=bO (by kernel_rfl)
end Go.Sp
end

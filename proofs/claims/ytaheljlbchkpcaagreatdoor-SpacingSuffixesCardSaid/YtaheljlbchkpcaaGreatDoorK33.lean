/- SpacingSuffixes: parts of its proof (ClFD ClKD). -/
import Derived.Test.YtaheljlbchkpcaaGreatDoorK24
set_option linter.unusedVariables false
set_option linter.unusedSimpArgs false
noncomputable section
open Go Go.aw Go.Proofs
namespace Go.Sp
set_option maxRecDepth 100000
theorem aa7:∀p∈(eF.drop (14*12)).take 14,ij p:=bO (by kernel_rfl)
theorem aa8:∀p∈(eF.drop (14*13)).take 14,ij p:=bO (by kernel_rfl)
theorem aa9:∀p∈(eF.drop (14*14)).take 14,ij p:=bO (by kernel_rfl)
theorem aba:∀p∈(eF.drop (14*15)).take 14,ij p:=bO (by kernel_rfl)
end Go.Sp
end
noncomputable section
open Go Go.aw Go.Proofs
namespace Go.Sp
set_option maxRecDepth 100000
theorem abr:∀p∈((List.range 256).drop (13*12)).take 13,ik p:=bO (by kernel_rfl)
theorem abt:∀p∈((List.range 256).drop (13*13)).take 13,ik p:=bO (by kernel_rfl)
theorem abu:∀p∈((List.range 256).drop (13*14)).take 13,ik p:=bO (by kernel_rfl)
theorem abv:∀p∈((List.range 256).drop (13*15)).take 13,ik p:=bO (by kernel_rfl)
end Go.Sp
end

/- SpacingSuffixes: parts of its proof (ClUD ClKA). -/
import Derived.Test.YtaheljlbchkpcaaGreatDoorK24
set_option linter.unusedVariables false
set_option linter.unusedSimpArgs false
noncomputable section
open Go Go.aw Go.Proofs
namespace Go.Sp
set_option maxRecDepth 100000
theorem aaN:∀p∈(ie.drop (14*12)).take 14,ig p:=bO (by kernel_rfl)
theorem aaO:∀p∈(ie.drop (14*13)).take 14,ig p:=bO (by kernel_rfl)
theorem aaP:∀p∈(ie.drop (14*14)).take 14,ig p:=bO (by kernel_rfl)
theorem aaQ:∀p∈(ie.drop (14*15)).take 14,ig p:=bO (by kernel_rfl)
end Go.Sp
end
noncomputable section
open Go Go.aw Go.Proofs
namespace Go.Sp
set_option maxRecDepth 100000
theorem abf:∀p∈((List.range 256).drop (13*0)).take 13,ik p:=bO (by kernel_rfl)
theorem abg:∀p∈((List.range 256).drop (13*1)).take 13,ik p:=bO (by kernel_rfl)
theorem abh:∀p∈((List.range 256).drop (13*2)).take 13,ik p:=bO (by kernel_rfl)
theorem abi:∀p∈((List.range 256).drop (13*3)).take 13,ik p:=bO (by kernel_rfl)
end Go.Sp
end

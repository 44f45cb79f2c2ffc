/- SpacingIndependent: parts of its proof. -/
import Derived.Test.YtmhjnafgdhaemaaGreatDoorK21
set_option linter.all false
set_option maxRecDepth 100000
noncomputable section
open Go Go.au Go.Proofs
namespace Go.Sp
abbrev gz(p:Nat×Nat):Prop:=ay E true 83 [.agg (aF p.1).e,.agg (aF p.2).e] (.agg (aF (p.1|||p.2)).e)
abbrev gA(p:Nat×Int):Prop:=ay E true 87 [.agg (aF p.1).e,iV p.2] (bV true)
abbrev gB(p:Nat):Prop:=ay E true 68 [.agg (aF p).e] (iV 0)
theorem XC:∀p∈([170,204,240]:List Nat),ay E true 30 [.agg (aF p).e] (.agg (aF (255-p)).e):=bI (by kernel_rfl)
theorem XD:∀p∈XA,ay E true 84 [.agg (aF p.1).e,.agg (aF p.2).e] (.agg (aF (p.1&&&p.2)).e):=bI (by kernel_rfl)
theorem XE:∀p∈XB,ay E true 84 [.agg (aF p.1).e,.agg (aF p.2).e] (.agg (aF (p.1&&&p.2)).e):=bI (by kernel_rfl)
end Go.Sp
end

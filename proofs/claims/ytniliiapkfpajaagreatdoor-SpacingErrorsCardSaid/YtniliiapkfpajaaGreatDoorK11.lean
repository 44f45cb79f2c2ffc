/- Parts of a proof. -/
import Derived.Test.YtniliiapkfpajaaGreatDoorK09
set_option linter.all false
set_option maxRecDepth 100000
noncomputable section
open Go Go.aD Go.Proofs
namespace Go.Sp
abbrev gU(p:Nat×Nat):Prop:=ay E true 174 [.agg (aO p.1).e,.agg (aO p.2).e] (.agg (aO (p.1|||p.2)).e)
abbrev gV(p:Nat×Int):Prop:=ay E true 178 [.agg (aO p.1).e,iV p.2] (bV true)
abbrev gW(p:Nat):Prop:=ay E true 148 [.agg (aO p).e] (iV 0)
def YT:∀p∈([170,204,240]:List Nat),ay E true 172 [.agg (aO p).e] (.agg (aO (255-p)).e):=bW an
def YU:∀p∈YR,ay E true 175 [.agg (aO p.1).e,.agg (aO p.2).e] (.agg (aO (p.1&&&p.2)).e):=bW an
def YV:∀p∈YS,ay E true 175 [.agg (aO p.1).e,.agg (aO p.2).e] (.agg (aO (p.1&&&p.2)).e):=bW an
end Go.Sp
end

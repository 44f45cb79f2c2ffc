/- Parts of a proof. -/
import Derived.Test.YtlgccnjcmfighaaGreatDoorK09
set_option linter.all false
set_option maxRecDepth 100000
noncomputable section
open Go Go.aD Go.Proofs
namespace Go.Sp
abbrev ig(p:Nat×Nat):Prop:=aE E true 94 [.agg (aM p.1).e,.agg (aM p.2).e] (.agg (aM (p.1|||p.2)).e)
abbrev ij(p:Nat×Int):Prop:=aE E true 98 [.agg (aM p.1).e,iV p.2] (bV true)
abbrev ik(p:Nat):Prop:=aE E true 77 [.agg (aM p).e] (iV 0)
def Zl:∀p∈([170,204,240]:List Nat),aE E true 30 [.agg (aM p).e] (.agg (aM (255-p)).e):=bR ak
def Zm:∀p∈Zj,aE E true 95 [.agg (aM p.1).e,.agg (aM p.2).e] (.agg (aM (p.1&&&p.2)).e):=bR ak
def Zn:∀p∈Zk,aE E true 95 [.agg (aM p.1).e,.agg (aM p.2).e] (.agg (aM (p.1&&&p.2)).e):=bR ak
end Go.Sp
end

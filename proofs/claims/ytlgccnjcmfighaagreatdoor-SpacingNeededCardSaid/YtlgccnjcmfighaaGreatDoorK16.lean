/- Parts of a proof. -/
import Derived.Test.YtlgccnjcmfighaaGreatDoorK11
open List renaming range->qG
set_option linter.all false
set_option maxRecDepth 100000
noncomputable section
open Go Go.aD Go.Proofs
namespace Go.Sp
def aaa:∀p∈((qG 256).drop (13*8)).take 13,ik p:=bR ak
def aab:∀p∈((qG 256).drop (13*9)).take 13,ik p:=bR ak
def aac:∀p∈((qG 256).drop (13*10)).take 13,ik p:=bR ak
def aad:∀p∈((qG 256).drop (13*11)).take 13,ik p:=bR ak
def aae:∀p∈((qG 256).drop (13*12)).take 13,ik p:=bR ak
def aaf:∀p∈((qG 256).drop (13*13)).take 13,ik p:=bR ak
def aag:∀p∈((qG 256).drop (13*14)).take 13,ik p:=bR ak
def aah:∀p∈((qG 256).drop (13*15)).take 13,ik p:=bR ak
def aai:∀p∈((qG 256).drop (13*16)).take 13,ik p:=bR ak
def aaj:∀p∈((qG 256).drop (13*17)).take 13,ik p:=bR ak
def aak:∀p∈((qG 256).drop (13*18)).take 13,ik p:=bR ak
def aal:∀p∈((qG 256).drop (13*19)).take 13,ik p:=bR ak
end Go.Sp
end

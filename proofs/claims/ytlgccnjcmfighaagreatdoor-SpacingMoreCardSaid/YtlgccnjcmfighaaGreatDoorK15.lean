/- Parts of a proof. -/
import Derived.Test.YtlgccnjcmfighaaGreatDoorK11
open List renaming range->qG
set_option linter.all false
set_option maxRecDepth 100000
noncomputable section
open Go Go.aD Go.Proofs
namespace Go.Sp
def ZY:∀p∈(eF.drop (14*16)).take 14,ij p:=bR ak
def ZZ:∀p∈(eF.drop (14*17)).take 14,ij p:=bR ak
def Z0:∀p∈(eF.drop (14*18)).take 14,ij p:=bR ak
def Z1:∀p∈(eF.drop (14*19)).take 14,ij p:=bR ak
def Z2:∀p∈((qG 256).drop (13*0)).take 13,ik p:=bR ak
def Z3:∀p∈((qG 256).drop (13*1)).take 13,ik p:=bR ak
def Z4:∀p∈((qG 256).drop (13*2)).take 13,ik p:=bR ak
def Z5:∀p∈((qG 256).drop (13*3)).take 13,ik p:=bR ak
def Z6:∀p∈((qG 256).drop (13*4)).take 13,ik p:=bR ak
def Z7:∀p∈((qG 256).drop (13*5)).take 13,ik p:=bR ak
def Z8:∀p∈((qG 256).drop (13*6)).take 13,ik p:=bR ak
def Z9:∀p∈((qG 256).drop (13*7)).take 13,ik p:=bR ak
end Go.Sp
end

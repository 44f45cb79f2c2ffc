/- Parts of a proof. -/
import Derived.Test.YtlgccnjcmfighaaGreatDoorK11
set_option linter.all false
set_option maxRecDepth 100000
noncomputable section
open Go Go.aD Go.Proofs
namespace Go.Sp
def ZA:∀p∈(ie.drop (14*12)).take 14,ig p:=bR ak
def ZB:∀p∈(ie.drop (14*13)).take 14,ig p:=bR ak
def ZC:∀p∈(ie.drop (14*14)).take 14,ig p:=bR ak
def ZD:∀p∈(ie.drop (14*15)).take 14,ig p:=bR ak
def ZE:∀p∈(ie.drop (14*16)).take 14,ig p:=bR ak
def ZF:∀p∈(ie.drop (14*17)).take 14,ig p:=bR ak
def ZG:∀p∈(ie.drop (14*18)).take 14,ig p:=bR ak
def ZH:∀p∈(ie.drop (14*19)).take 14,ig p:=bR ak
def ZI:∀p∈(eF.drop (14*0)).take 14,ij p:=bR ak
def ZJ:∀p∈(eF.drop (14*1)).take 14,ij p:=bR ak
def ZK:∀p∈(eF.drop (14*2)).take 14,ij p:=bR ak
def ZL:∀p∈(eF.drop (14*3)).take 14,ij p:=bR ak
end Go.Sp
end

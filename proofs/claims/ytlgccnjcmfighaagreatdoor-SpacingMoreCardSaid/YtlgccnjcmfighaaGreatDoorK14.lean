/- Parts of a proof. -/
import Derived.Test.YtlgccnjcmfighaaGreatDoorK11
set_option linter.all false
set_option maxRecDepth 100000
noncomputable section
open Go Go.aD Go.Proofs
namespace Go.Sp
def ZM:∀p∈(eF.drop (14*4)).take 14,ij p:=bR ak
def ZN:∀p∈(eF.drop (14*5)).take 14,ij p:=bR ak
def ZO:∀p∈(eF.drop (14*6)).take 14,ij p:=bR ak
def ZP:∀p∈(eF.drop (14*7)).take 14,ij p:=bR ak
def ZQ:∀p∈(eF.drop (14*8)).take 14,ij p:=bR ak
def ZR:∀p∈(eF.drop (14*9)).take 14,ij p:=bR ak
def ZS:∀p∈(eF.drop (14*10)).take 14,ij p:=bR ak
def ZT:∀p∈(eF.drop (14*11)).take 14,ij p:=bR ak
def ZU:∀p∈(eF.drop (14*12)).take 14,ij p:=bR ak
def ZV:∀p∈(eF.drop (14*13)).take 14,ij p:=bR ak
def ZW:∀p∈(eF.drop (14*14)).take 14,ij p:=bR ak
def ZX:∀p∈(eF.drop (14*15)).take 14,ij p:=bR ak
end Go.Sp
end

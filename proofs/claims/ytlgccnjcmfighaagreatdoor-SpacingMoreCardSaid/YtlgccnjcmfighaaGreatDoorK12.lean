/- Parts of a proof. -/
import Derived.Test.YtlgccnjcmfighaaGreatDoorK11
set_option linter.all false
set_option maxRecDepth 100000
noncomputable section
open Go Go.aD Go.Proofs
namespace Go.Sp
def Zo:∀p∈(ie.drop (14*0)).take 14,ig p:=bR ak
def Zp:∀p∈(ie.drop (14*1)).take 14,ig p:=bR ak
def Zq:∀p∈(ie.drop (14*2)).take 14,ig p:=bR ak
def Zr:∀p∈(ie.drop (14*3)).take 14,ig p:=bR ak
def Zs:∀p∈(ie.drop (14*4)).take 14,ig p:=bR ak
def Zt:∀p∈(ie.drop (14*5)).take 14,ig p:=bR ak
def Zu:∀p∈(ie.drop (14*6)).take 14,ig p:=bR ak
def Zv:∀p∈(ie.drop (14*7)).take 14,ig p:=bR ak
def Zw:∀p∈(ie.drop (14*8)).take 14,ig p:=bR ak
def Zx:∀p∈(ie.drop (14*9)).take 14,ig p:=bR ak
def Zy:∀p∈(ie.drop (14*10)).take 14,ig p:=bR ak
def Zz:∀p∈(ie.drop (14*11)).take 14,ig p:=bR ak
end Go.Sp
end

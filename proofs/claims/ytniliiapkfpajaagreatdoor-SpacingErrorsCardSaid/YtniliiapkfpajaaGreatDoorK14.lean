/- Parts of a proof. -/
import Derived.Test.YtniliiapkfpajaaGreatDoorK11
set_option linter.all false
set_option maxRecDepth 100000
noncomputable section
open Go Go.aD Go.Proofs
namespace Go.Sp
def Zk:∀p∈(eB.drop (14*4)).take 14,gV p:=bW an
def Zl:∀p∈(eB.drop (14*5)).take 14,gV p:=bW an
def Zm:∀p∈(eB.drop (14*6)).take 14,gV p:=bW an
def Zn:∀p∈(eB.drop (14*7)).take 14,gV p:=bW an
def Zo:∀p∈(eB.drop (14*8)).take 14,gV p:=bW an
def Zp:∀p∈(eB.drop (14*9)).take 14,gV p:=bW an
def Zq:∀p∈(eB.drop (14*10)).take 14,gV p:=bW an
def Zr:∀p∈(eB.drop (14*11)).take 14,gV p:=bW an
def Zs:∀p∈(eB.drop (14*12)).take 14,gV p:=bW an
def Zt:∀p∈(eB.drop (14*13)).take 14,gV p:=bW an
def Zu:∀p∈(eB.drop (14*14)).take 14,gV p:=bW an
def Zv:∀p∈(eB.drop (14*15)).take 14,gV p:=bW an
end Go.Sp
end

/- Parts of a proof. -/
import Derived.Test.YtniliiapkfpajaaGreatDoorK11
set_option linter.all false
set_option maxRecDepth 100000
noncomputable section
open Go Go.aD Go.Proofs
namespace Go.Sp
def Y8:∀p∈(gT.drop (14*12)).take 14,gU p:=bW an
def Y9:∀p∈(gT.drop (14*13)).take 14,gU p:=bW an
def Za:∀p∈(gT.drop (14*14)).take 14,gU p:=bW an
def Zb:∀p∈(gT.drop (14*15)).take 14,gU p:=bW an
def Zc:∀p∈(gT.drop (14*16)).take 14,gU p:=bW an
def Zd:∀p∈(gT.drop (14*17)).take 14,gU p:=bW an
def Ze:∀p∈(gT.drop (14*18)).take 14,gU p:=bW an
def Zf:∀p∈(gT.drop (14*19)).take 14,gU p:=bW an
def Zg:∀p∈(eB.drop (14*0)).take 14,gV p:=bW an
def Zh:∀p∈(eB.drop (14*1)).take 14,gV p:=bW an
def Zi:∀p∈(eB.drop (14*2)).take 14,gV p:=bW an
def Zj:∀p∈(eB.drop (14*3)).take 14,gV p:=bW an
end Go.Sp
end

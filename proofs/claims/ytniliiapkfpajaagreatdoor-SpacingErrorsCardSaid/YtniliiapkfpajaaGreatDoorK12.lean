/- Parts of a proof. -/
import Derived.Test.YtniliiapkfpajaaGreatDoorK11
set_option linter.all false
set_option maxRecDepth 100000
noncomputable section
open Go Go.aD Go.Proofs
namespace Go.Sp
def YW:∀p∈(gT.drop (14*0)).take 14,gU p:=bW an
def YX:∀p∈(gT.drop (14*1)).take 14,gU p:=bW an
def YY:∀p∈(gT.drop (14*2)).take 14,gU p:=bW an
def YZ:∀p∈(gT.drop (14*3)).take 14,gU p:=bW an
def Y0:∀p∈(gT.drop (14*4)).take 14,gU p:=bW an
def Y1:∀p∈(gT.drop (14*5)).take 14,gU p:=bW an
def Y2:∀p∈(gT.drop (14*6)).take 14,gU p:=bW an
def Y3:∀p∈(gT.drop (14*7)).take 14,gU p:=bW an
def Y4:∀p∈(gT.drop (14*8)).take 14,gU p:=bW an
def Y5:∀p∈(gT.drop (14*9)).take 14,gU p:=bW an
def Y6:∀p∈(gT.drop (14*10)).take 14,gU p:=bW an
def Y7:∀p∈(gT.drop (14*11)).take 14,gU p:=bW an
end Go.Sp
end

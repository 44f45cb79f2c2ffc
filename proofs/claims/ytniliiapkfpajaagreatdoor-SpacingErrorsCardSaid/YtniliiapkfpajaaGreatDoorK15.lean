/- Parts of a proof. -/
import Derived.Test.YtniliiapkfpajaaGreatDoorK11
open List renaming range->oY
set_option linter.all false
set_option maxRecDepth 100000
noncomputable section
open Go Go.aD Go.Proofs
namespace Go.Sp
def Zw:∀p∈(eB.drop (14*16)).take 14,gV p:=bW an
def Zx:∀p∈(eB.drop (14*17)).take 14,gV p:=bW an
def Zy:∀p∈(eB.drop (14*18)).take 14,gV p:=bW an
def Zz:∀p∈(eB.drop (14*19)).take 14,gV p:=bW an
def ZA:∀p∈((oY 256).drop (13*0)).take 13,gW p:=bW an
def ZB:∀p∈((oY 256).drop (13*1)).take 13,gW p:=bW an
def ZC:∀p∈((oY 256).drop (13*2)).take 13,gW p:=bW an
def ZD:∀p∈((oY 256).drop (13*3)).take 13,gW p:=bW an
def ZE:∀p∈((oY 256).drop (13*4)).take 13,gW p:=bW an
def ZF:∀p∈((oY 256).drop (13*5)).take 13,gW p:=bW an
def ZG:∀p∈((oY 256).drop (13*6)).take 13,gW p:=bW an
def ZH:∀p∈((oY 256).drop (13*7)).take 13,gW p:=bW an
end Go.Sp
end

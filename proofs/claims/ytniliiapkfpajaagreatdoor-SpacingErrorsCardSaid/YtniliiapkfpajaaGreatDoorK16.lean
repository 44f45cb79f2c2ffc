/- Parts of a proof. -/
import Derived.Test.YtniliiapkfpajaaGreatDoorK11
open List renaming range->oY
set_option linter.all false
set_option maxRecDepth 100000
noncomputable section
open Go Go.aD Go.Proofs
namespace Go.Sp
def ZI:∀p∈((oY 256).drop (13*8)).take 13,gW p:=bW an
def ZJ:∀p∈((oY 256).drop (13*9)).take 13,gW p:=bW an
def ZK:∀p∈((oY 256).drop (13*10)).take 13,gW p:=bW an
def ZL:∀p∈((oY 256).drop (13*11)).take 13,gW p:=bW an
def ZM:∀p∈((oY 256).drop (13*12)).take 13,gW p:=bW an
def ZN:∀p∈((oY 256).drop (13*13)).take 13,gW p:=bW an
def ZO:∀p∈((oY 256).drop (13*14)).take 13,gW p:=bW an
def ZP:∀p∈((oY 256).drop (13*15)).take 13,gW p:=bW an
def ZQ:∀p∈((oY 256).drop (13*16)).take 13,gW p:=bW an
def ZR:∀p∈((oY 256).drop (13*17)).take 13,gW p:=bW an
def ZS:∀p∈((oY 256).drop (13*18)).take 13,gW p:=bW an
def ZT:∀p∈((oY 256).drop (13*19)).take 13,gW p:=bW an
end Go.Sp
end

/-
  DERIVED. GIVEN WITH THE SEED: THE CARDS: each row of YtaheljlbchkpcaaGreatDoorRows.lean that lists a variable, with what it lists TIED to the program's text (the seventh form; the later family's looks); each row that meets fmt, with fmt's text TOLD by the authors' own Lean function (tested against real Go, not proved from fmt's source: count such statements apart). THE CARD IS WHAT COUNTS. Prove the row's statement (the work); the ties are given (YtaheljlbchkpcaaGreatDoorTie.lean); close each card by the builder's one call (the guide's Derived/Test/ToyasCard.lean, 'card_holds'). Laid BY PROGRAM, IN A SANDBOX (cutbox-door.mjs). By AI agents, Wed Nov 11 2026. No macro, syntax, notation, axiom, sorry.
-/
import Derived.Test.YtaheljlbchkpcaaGreatDoorRows
import GoSem.ClaimSeven
namespace Go.Proofs.YtaheljlbchkpcaaGreatDoor
namespace Rows

/-- THE TIED CARD OF 'koinelaw24.SpacingSuffixes'. -/
def spacingSuffixesCard : Claim7 := { stood := { row := spacingSuffixesRow, standIns := [], harness := (true, "321a25758f95e16385a892f9a154b1492dbfc9d109fdae2efa16f78052b150e5"), looks := true }, kinds := [], alts := [], laidByText := true, laidKinds := [.data], laidTests := true, laidLooks := .later }
def SpacingSuffixesCardSaid : Prop := Claim7.holds Tryz.pinned (.plain (OpenSpec.ofChange spacingSuffixesSpec)) spacingSuffixesCard

/-- THE SECOND FORM's CARD OF 'koinelaw24.SpacingSuffixes'. -/
def spacingSuffixesUptoCard : Claim7 := { stood := { row := spacingSuffixesUptoRow, standIns := [], harness := (true, "321a25758f95e16385a892f9a154b1492dbfc9d109fdae2efa16f78052b150e5"), looks := true }, kinds := [], alts := [], laidByText := true, laidKinds := [.data], laidTests := true, laidLooks := .later }
def SpacingSuffixesUptoCardSaid : Prop := Claim7.holds Tryz.pinned (.plain (OpenSpec.upto spacingSuffixesSpec)) spacingSuffixesUptoCard
end Rows
end Go.Proofs.YtaheljlbchkpcaaGreatDoor

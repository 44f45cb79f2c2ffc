/-
  DERIVED. GIVEN WITH THE SEED: THE CARDS: each row of YtmhjnafgdhaemaaGreatDoorRows.lean that lists a variable, with what it lists TIED to the program's text (the seventh form; the later family's looks); each row that meets fmt, with fmt's text TOLD by the authors' own Lean function (tested against real Go, not proved from fmt's source: count such statements apart). THE CARD IS WHAT COUNTS. Prove the row's statement (the work); the ties are given (YtmhjnafgdhaemaaGreatDoorTie.lean); close each card by the builder's one call (the guide's Derived/Test/ToyasCard.lean, 'card_holds'). Laid BY PROGRAM, IN A SANDBOX (cutbox-door.mjs). By AI agents, Wed Nov 11 2026. No macro, syntax, notation, axiom, sorry.
-/
import Derived.Test.YtmhjnafgdhaemaaGreatDoorRows
import GoSem.ClaimSeven
namespace Go.Proofs.YtmhjnafgdhaemaaGreatDoor
namespace Rows

/-- THE TIED CARD OF 'koinelaw24.SpacingIndependent'. -/
def spacingIndependentCard : Claim7 := { stood := { row := spacingIndependentRow, standIns := [], harness := (true, "69589ceef5f1bfd68e1c1bf6799900cc2713afd1f581f2bde7652552910db4fa"), looks := true }, kinds := [], alts := [], laidByText := true, laidKinds := [.data], laidTests := true, laidLooks := .later }
def SpacingIndependentCardSaid : Prop := Claim7.holds Tryz.pinned (.plain (OpenSpec.ofChange spacingIndependentSpec)) spacingIndependentCard

/-- THE SECOND FORM's CARD OF 'koinelaw24.SpacingIndependent'. -/
def spacingIndependentUptoCard : Claim7 := { stood := { row := spacingIndependentUptoRow, standIns := [], harness := (true, "69589ceef5f1bfd68e1c1bf6799900cc2713afd1f581f2bde7652552910db4fa"), looks := true }, kinds := [], alts := [], laidByText := true, laidKinds := [.data], laidTests := true, laidLooks := .later }
def SpacingIndependentUptoCardSaid : Prop := Claim7.holds Tryz.pinned (.plain (OpenSpec.upto spacingIndependentSpec)) spacingIndependentUptoCard
end Rows
end Go.Proofs.YtmhjnafgdhaemaaGreatDoor

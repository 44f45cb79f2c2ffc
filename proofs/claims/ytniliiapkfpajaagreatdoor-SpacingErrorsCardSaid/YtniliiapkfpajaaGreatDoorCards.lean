/-
  DERIVED. GIVEN WITH THE SEED: THE CARDS: each row of YtniliiapkfpajaaGreatDoorRows.lean that lists a variable, with what it lists TIED to the program's text (the seventh form; the later family's looks); each row that meets fmt, with fmt's text TOLD by the authors' own Lean function (tested against real Go, not proved from fmt's source: count such statements apart). THE CARD IS WHAT COUNTS. Prove the row's statement (the work); the ties are given (YtniliiapkfpajaaGreatDoorTie.lean); close each card by the builder's one call (the guide's Derived/Test/ToyasCard.lean, 'card_holds'). Laid BY PROGRAM, IN A SANDBOX (cutbox-door.mjs). By AI agents, Wed Nov 11 2026. No macro, syntax, notation, axiom, sorry.
-/
import Derived.Test.YtniliiapkfpajaaGreatDoorRows
import GoSem.ClaimSeven
namespace Go.Proofs.YtniliiapkfpajaaGreatDoor
namespace Rows

/-- THE TIED CARD OF 'koinelaw24.SpacingErrors'. -/
def spacingErrorsCard : Claim7 := { stood := { row := spacingErrorsRow, standIns := [], harness := (true, "2d73ee9195d6e1204b53c6878703f37158a2c425eefe297a8a410a2cd4a9d72f"), looks := true }, kinds := [], alts := [], laidByText := true, laidKinds := [.data], laidTests := true, laidLooks := .later }
def SpacingErrorsCardSaid : Prop := Claim7.holds Tryz.pinned (.plain (OpenSpec.ofChange spacingErrorsSpec)) spacingErrorsCard

/-- THE TIED CARD OF 'koinelaw09.TreeIdentity'. -/
def treeIdentityCard : Claim7 := { stood := { row := treeIdentityRow, standIns := [], harness := (true, "2d73ee9195d6e1204b53c6878703f37158a2c425eefe297a8a410a2cd4a9d72f"), looks := true }, kinds := [], alts := [], laidByText := true, laidKinds := [.data], laidTests := true, laidLooks := .later }
def TreeIdentityCardSaid : Prop := Claim7.holds Tryz.pinned (.plain (OpenSpec.ofChange treeIdentitySpec)) treeIdentityCard

/-- THE TIED CARD OF 'koinelaw09.TreeOrder'. -/
def treeOrderCard : Claim7 := { stood := { row := treeOrderRow, standIns := [], harness := (true, "2d73ee9195d6e1204b53c6878703f37158a2c425eefe297a8a410a2cd4a9d72f"), looks := true }, kinds := [], alts := [], laidByText := true, laidKinds := [.data], laidTests := true, laidLooks := .later }
def TreeOrderCardSaid : Prop := Claim7.holds Tryz.pinned (.plain (OpenSpec.ofChange treeOrderSpec)) treeOrderCard

/-- THE SECOND FORM's CARD OF 'koinelaw24.SpacingErrors'. -/
def spacingErrorsUptoCard : Claim7 := { stood := { row := spacingErrorsUptoRow, standIns := [], harness := (true, "2d73ee9195d6e1204b53c6878703f37158a2c425eefe297a8a410a2cd4a9d72f"), looks := true }, kinds := [], alts := [], laidByText := true, laidKinds := [.data], laidTests := true, laidLooks := .later }
def SpacingErrorsUptoCardSaid : Prop := Claim7.holds Tryz.pinned (.plain (OpenSpec.upto spacingErrorsSpec)) spacingErrorsUptoCard

/-- THE SECOND FORM's CARD OF 'koinelaw09.TreeIdentity'. -/
def treeIdentityUptoCard : Claim7 := { stood := { row := treeIdentityUptoRow, standIns := [], harness := (true, "2d73ee9195d6e1204b53c6878703f37158a2c425eefe297a8a410a2cd4a9d72f"), looks := true }, kinds := [], alts := [], laidByText := true, laidKinds := [.data], laidTests := true, laidLooks := .later }
def TreeIdentityUptoCardSaid : Prop := Claim7.holds Tryz.pinned (.plain (OpenSpec.upto treeIdentitySpec)) treeIdentityUptoCard

/-- THE SECOND FORM's CARD OF 'koinelaw09.TreeOrder'. -/
def treeOrderUptoCard : Claim7 := { stood := { row := treeOrderUptoRow, standIns := [], harness := (true, "2d73ee9195d6e1204b53c6878703f37158a2c425eefe297a8a410a2cd4a9d72f"), looks := true }, kinds := [], alts := [], laidByText := true, laidKinds := [.data], laidTests := true, laidLooks := .later }
def TreeOrderUptoCardSaid : Prop := Claim7.holds Tryz.pinned (.plain (OpenSpec.upto treeOrderSpec)) treeOrderUptoCard
end Rows
end Go.Proofs.YtniliiapkfpajaaGreatDoor

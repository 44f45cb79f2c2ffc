/-
  DERIVED. GIVEN WITH THE SEED: THE CARDS: each row of YtlgccnjcmfighaaGreatDoorRows.lean that lists a variable, with what it lists TIED to the program's text (the seventh form; the later family's looks); each row that meets fmt, with fmt's text TOLD by the authors' own Lean function (tested against real Go, not proved from fmt's source: count such statements apart). THE CARD IS WHAT COUNTS. Prove the row's statement (the work); the ties are given (YtlgccnjcmfighaaGreatDoorTie.lean); close each card by the builder's one call (the guide's Derived/Test/ToyasCard.lean, 'card_holds'). Laid BY PROGRAM, IN A SANDBOX (cutbox-door.mjs). By AI agents, Wed Nov 11 2026. No macro, syntax, notation, axiom, sorry.
-/
import Derived.Test.YtlgccnjcmfighaaGreatDoorRows
import GoSem.ClaimSeven
namespace Go.Proofs.YtlgccnjcmfighaaGreatDoor
namespace Rows

/-- THE TIED CARD OF 'koinelaw24.SpacingNeeded'. -/
def spacingNeededCard : Claim7 := { stood := { row := spacingNeededRow, standIns := [], harness := (true, "a3e539aca0319033ea2958fd664e6577028a2171e3dc95ec511b0ae52c3552c5"), looks := true }, kinds := [], alts := [], laidByText := true, laidKinds := [.data, .data, .pinned], laidTests := true, laidLooks := .later }
def SpacingNeededCardSaid : Prop := Claim7.holds Tryz.pinned (.plain (OpenSpec.ofChange spacingNeededSpec)) spacingNeededCard

/-- THE TIED CARD OF 'koinelaw24.SpacingMore'. -/
def spacingMoreCard : Claim7 := { stood := { row := spacingMoreRow, standIns := [], harness := (true, "a3e539aca0319033ea2958fd664e6577028a2171e3dc95ec511b0ae52c3552c5"), looks := true }, kinds := [], alts := [], laidByText := true, laidKinds := [.data, .data, .pinned], laidTests := true, laidLooks := .later }
def SpacingMoreCardSaid : Prop := Claim7.holds Tryz.pinned (.plain (OpenSpec.ofChange spacingMoreSpec)) spacingMoreCard

/-- THE SECOND FORM's CARD OF 'koinelaw24.SpacingNeeded'. -/
def spacingNeededUptoCard : Claim7 := { stood := { row := spacingNeededUptoRow, standIns := [], harness := (true, "a3e539aca0319033ea2958fd664e6577028a2171e3dc95ec511b0ae52c3552c5"), looks := true }, kinds := [], alts := [], laidByText := true, laidKinds := [.data, .data, .pinned], laidTests := true, laidLooks := .later }
def SpacingNeededUptoCardSaid : Prop := Claim7.holds Tryz.pinned (.plain (OpenSpec.upto spacingNeededSpec)) spacingNeededUptoCard

/-- THE SECOND FORM's CARD OF 'koinelaw24.SpacingMore'. -/
def spacingMoreUptoCard : Claim7 := { stood := { row := spacingMoreUptoRow, standIns := [], harness := (true, "a3e539aca0319033ea2958fd664e6577028a2171e3dc95ec511b0ae52c3552c5"), looks := true }, kinds := [], alts := [], laidByText := true, laidKinds := [.data, .data, .pinned], laidTests := true, laidLooks := .later }
def SpacingMoreUptoCardSaid : Prop := Claim7.holds Tryz.pinned (.plain (OpenSpec.upto spacingMoreSpec)) spacingMoreUptoCard
end Rows
end Go.Proofs.YtlgccnjcmfighaaGreatDoor

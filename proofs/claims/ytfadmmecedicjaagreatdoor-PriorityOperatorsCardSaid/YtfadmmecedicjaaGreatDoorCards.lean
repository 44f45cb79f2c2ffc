/-
  DERIVED. GIVEN WITH THE SEED: THE CARDS: each row of YtfadmmecedicjaaGreatDoorRows.lean that lists a variable, with what it lists TIED to the program's text (the seventh form; the later family's looks); each row that meets fmt, with fmt's text TOLD by the authors' own Lean function (tested against real Go, not proved from fmt's source: count such statements apart). THE CARD IS WHAT COUNTS. Prove the row's statement (the work); the ties are given (YtfadmmecedicjaaGreatDoorTie.lean); close each card by the builder's one call (the guide's Derived/Test/ToyasCard.lean, 'card_holds'). Laid BY PROGRAM, IN A SANDBOX (cutbox-door.mjs). By AI agents, Wed Nov 11 2026. No macro, syntax, notation, axiom, sorry.
-/
import Derived.Test.YtfadmmecedicjaaGreatDoorRows
import GoSem.ClaimSeven
namespace Go.Proofs.YtfadmmecedicjaaGreatDoor
namespace Rows

/-- THE TIED CARD OF 'koinelaw13.PriorityOperators'. -/
def priorityOperatorsCard : Claim7 := { stood := { row := priorityOperatorsRow, standIns := [], harness := (true, "216bec244d3efd1ee28170d3c6676ba4daf7faf1d00adfdc782272feb403252d"), looks := true }, kinds := [], alts := [], laidByText := true, laidKinds := [.data], laidTests := true, laidLooks := .later }
def PriorityOperatorsCardSaid : Prop := Claim7.holds Tryz.pinned (.plain (OpenSpec.ofChange priorityOperatorsSpec)) priorityOperatorsCard

/-- THE SECOND FORM's CARD OF 'koinelaw13.PriorityOperators'. -/
def priorityOperatorsUptoCard : Claim7 := { stood := { row := priorityOperatorsUptoRow, standIns := [], harness := (true, "216bec244d3efd1ee28170d3c6676ba4daf7faf1d00adfdc782272feb403252d"), looks := true }, kinds := [], alts := [], laidByText := true, laidKinds := [.data], laidTests := true, laidLooks := .later }
def PriorityOperatorsUptoCardSaid : Prop := Claim7.holds Tryz.pinned (.plain (OpenSpec.upto priorityOperatorsSpec)) priorityOperatorsUptoCard
end Rows
end Go.Proofs.YtfadmmecedicjaaGreatDoor

/-
  DERIVED. GIVEN WITH THE SEED: THE CARDS: each row of YtlilfkbnlacfgaaGreatDoorRows.lean that lists a variable, with what it lists TIED to the program's text (the seventh form; the later family's looks); each row that meets fmt, with fmt's text TOLD by the authors' own Lean function (tested against real Go, not proved from fmt's source: count such statements apart). THE CARD IS WHAT COUNTS. Prove the row's statement (the work); the ties are given (YtlilfkbnlacfgaaGreatDoorTie.lean); close each card by the builder's one call (the guide's Derived/Test/ToyasCard.lean, 'card_holds'). Laid BY PROGRAM, IN A SANDBOX (cutbox-door.mjs). By AI agents, Wed Nov 11 2026. No macro, syntax, notation, axiom, sorry.
-/
import Derived.Test.YtlilfkbnlacfgaaGreatDoorRows
import GoSem.ClaimSeven
namespace Go.Proofs.YtlilfkbnlacfgaaGreatDoor
namespace Rows

/-- THE TIED CARD OF 'koinelaw14.RestrictWordsMatchReference'. -/
def restrictWordsMatchReferenceCard : Claim7 := { stood := { row := restrictWordsMatchReferenceRow, standIns := [], harness := (true, "286a5f34f11b687f3859c629849401292bb394040c4369d98478d18b8b8aa6d4"), looks := true }, kinds := [], alts := [], laidByText := true, laidKinds := [.data], laidTests := true, laidLooks := .later }
def RestrictWordsMatchReferenceCardSaid : Prop := Claim7.holds Tryz.pinned (.plain (OpenSpec.ofChange restrictWordsMatchReferenceSpec)) restrictWordsMatchReferenceCard

/-- THE SECOND FORM's CARD OF 'koinelaw14.RestrictWordsMatchReference'. -/
def restrictWordsMatchReferenceUptoCard : Claim7 := { stood := { row := restrictWordsMatchReferenceUptoRow, standIns := [], harness := (true, "286a5f34f11b687f3859c629849401292bb394040c4369d98478d18b8b8aa6d4"), looks := true }, kinds := [], alts := [], laidByText := true, laidKinds := [.data], laidTests := true, laidLooks := .later }
def RestrictWordsMatchReferenceUptoCardSaid : Prop := Claim7.holds Tryz.pinned (.plain (OpenSpec.upto restrictWordsMatchReferenceSpec)) restrictWordsMatchReferenceUptoCard
end Rows
end Go.Proofs.YtlilfkbnlacfgaaGreatDoor

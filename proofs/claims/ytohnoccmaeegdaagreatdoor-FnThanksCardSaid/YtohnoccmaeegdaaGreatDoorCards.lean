/-
  DERIVED. GIVEN WITH THE SEED: THE CARDS: each row of YtohnoccmaeegdaaGreatDoorRows.lean that lists a variable, with what it lists TIED to the program's text (the seventh form; the later family's looks); each row that meets fmt, with fmt's text TOLD by the authors' own Lean function (tested against real Go, not proved from fmt's source: count such statements apart). THE CARD IS WHAT COUNTS. Prove the row's statement (the work); the ties are given (YtohnoccmaeegdaaGreatDoorTie.lean); close each card by the builder's one call (the guide's Derived/Test/ToyasCard.lean, 'card_holds'). Laid BY PROGRAM, IN A SANDBOX (cutbox-door.mjs). By AI agents, Wed Nov 11 2026. No macro, syntax, notation, axiom, sorry.
-/
import Derived.Test.YtohnoccmaeegdaaGreatDoorRows
import GoSem.ClaimSeven
namespace Go.Proofs.YtohnoccmaeegdaaGreatDoor
namespace Rows

/-- THE TIED CARD OF 'laws.FnThanks'. -/
def fnThanksCard : Claim7 := { stood := { row := fnThanksRow, standIns := [], harness := (true, "f513603a485b9d20621bbe052b8ba8c8ec5892f7ad7de7a568244d3209b21729"), looks := false }, kinds := [], alts := [], laidByText := true, laidKinds := [.data, .data, .data], laidTests := true, laidLooks := .later }
def FnThanksCardSaid : Prop := Claim7.holds Tryz.pinned (.plain (OpenSpec.ofChange fnThanksSpec)) fnThanksCard

/-- THE SECOND FORM's CARD OF 'laws.FnThanks'. -/
def fnThanksUptoCard : Claim7 := { stood := { row := fnThanksUptoRow, standIns := [], harness := (true, "f513603a485b9d20621bbe052b8ba8c8ec5892f7ad7de7a568244d3209b21729"), looks := false }, kinds := [], alts := [], laidByText := true, laidKinds := [.data, .data, .data], laidTests := true, laidLooks := .later }
def FnThanksUptoCardSaid : Prop := Claim7.holds Tryz.pinned (.plain (OpenSpec.upto fnThanksSpec)) fnThanksUptoCard
end Rows
end Go.Proofs.YtohnoccmaeegdaaGreatDoor

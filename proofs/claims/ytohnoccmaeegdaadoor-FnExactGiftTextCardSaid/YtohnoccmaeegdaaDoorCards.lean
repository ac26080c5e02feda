/-
  DERIVED. GIVEN WITH THE SEED: THE CARDS: each row of YtohnoccmaeegdaaDoorRows.lean that lists a variable, with what it lists TIED to the program's text (the seventh form; the later family's looks); each row that meets fmt, with fmt's text TOLD by the authors' own Lean function (tested against real Go, not proved from fmt's source: count such statements apart). THE CARD IS WHAT COUNTS. Prove the row's statement (the work); the ties are given (YtohnoccmaeegdaaDoorTie.lean); close each card by the builder's one call (the guide's Derived/Test/ToyasCard.lean, 'card_holds'). Laid BY PROGRAM, IN A SANDBOX (cutbox-door.mjs). By AI agents, Wed Nov 11 2026. No macro, syntax, notation, axiom, sorry.
-/
import Derived.Test.YtohnoccmaeegdaaDoorRows
import GoSem.ClaimSeven
namespace Go.Proofs.YtohnoccmaeegdaaDoor
namespace Rows

/-- THE TIED CARD OF 'laws.FnExactGiftText'. -/
def fnExactGiftTextCard : Claim7 := { stood := { row := fnExactGiftTextRow, standIns := [], harness := (true, "4c6d9978e090521e9a1257aef1b8c5460081e1f04ce0b1f1e99d4d4b2bd54fb4"), looks := false }, kinds := [], alts := [], laidByText := true, laidKinds := [.data, .data, .data], laidTests := true, laidLooks := .later }
def FnExactGiftTextCardSaid : Prop := Claim7.holds Tryd.pinned (.plain (OpenSpec.ofChange fnExactGiftTextSpec)) fnExactGiftTextCard

/-- THE SECOND FORM's CARD OF 'laws.FnExactGiftText'. -/
def fnExactGiftTextUptoCard : Claim7 := { stood := { row := fnExactGiftTextUptoRow, standIns := [], harness := (true, "4c6d9978e090521e9a1257aef1b8c5460081e1f04ce0b1f1e99d4d4b2bd54fb4"), looks := false }, kinds := [], alts := [], laidByText := true, laidKinds := [.data, .data, .data], laidTests := true, laidLooks := .later }
def FnExactGiftTextUptoCardSaid : Prop := Claim7.holds Tryd.pinned (.plain (OpenSpec.upto fnExactGiftTextSpec)) fnExactGiftTextUptoCard
end Rows
end Go.Proofs.YtohnoccmaeegdaaDoor

/-
  DERIVED. GIVEN WITH THE SEED: THE CARDS: each row of YtlhlbgnhnkfmgaaDoorRows.lean that lists a variable, with what it lists TIED to the program's text (the seventh form; the later family's looks); each row that meets fmt, with fmt's text TOLD by the authors' own Lean function (tested against real Go, not proved from fmt's source: count such statements apart). THE CARD IS WHAT COUNTS. Prove the row's statement (the work); the ties are given (YtlhlbgnhnkfmgaaDoorTie.lean); close each card by the builder's one call (the guide's Derived/Test/ToyasCard.lean, 'card_holds'). Laid BY PROGRAM, IN A SANDBOX (cutbox-door.mjs). By AI agents, Wed Nov 11 2026. No macro, syntax, notation, axiom, sorry.
-/
import Derived.Test.YtlhlbgnhnkfmgaaDoorRows
import GoSem.ClaimSeven
namespace Go.Proofs.YtlhlbgnhnkfmgaaDoor
namespace Rows

/-- THE TIED CARD OF 'laws.FnExactOrderText'. -/
def fnExactOrderTextCard : Claim7 := { stood := { row := fnExactOrderTextRow, standIns := [], harness := (true, "27cf4723f18861fe2695ace49a8abaf3ff8c4ca578afeccc783f592fed1250c9"), looks := false }, kinds := [], alts := [], laidByText := true, laidKinds := [.data, .data, .data], laidTests := true, laidLooks := .later }
def FnExactOrderTextCardSaid : Prop := Claim7.holds Tryd.pinned (.plain (OpenSpec.ofChange fnExactOrderTextSpec)) fnExactOrderTextCard

/-- THE TIED CARD OF 'laws.FnReadyDays'. -/
def fnReadyDaysCard : Claim7 := { stood := { row := fnReadyDaysRow, standIns := [], harness := (true, "27cf4723f18861fe2695ace49a8abaf3ff8c4ca578afeccc783f592fed1250c9"), looks := false }, kinds := [], alts := [], laidByText := true, laidKinds := [.data, .data, .data], laidTests := true, laidLooks := .later }
def FnReadyDaysCardSaid : Prop := Claim7.holds Tryd.pinned (.plain (OpenSpec.ofChange fnReadyDaysSpec)) fnReadyDaysCard

/-- THE SECOND FORM's CARD OF 'laws.FnExactOrderText'. -/
def fnExactOrderTextUptoCard : Claim7 := { stood := { row := fnExactOrderTextUptoRow, standIns := [], harness := (true, "27cf4723f18861fe2695ace49a8abaf3ff8c4ca578afeccc783f592fed1250c9"), looks := false }, kinds := [], alts := [], laidByText := true, laidKinds := [.data, .data, .data], laidTests := true, laidLooks := .later }
def FnExactOrderTextUptoCardSaid : Prop := Claim7.holds Tryd.pinned (.plain (OpenSpec.upto fnExactOrderTextSpec)) fnExactOrderTextUptoCard

/-- THE SECOND FORM's CARD OF 'laws.FnReadyDays'. -/
def fnReadyDaysUptoCard : Claim7 := { stood := { row := fnReadyDaysUptoRow, standIns := [], harness := (true, "27cf4723f18861fe2695ace49a8abaf3ff8c4ca578afeccc783f592fed1250c9"), looks := false }, kinds := [], alts := [], laidByText := true, laidKinds := [.data, .data, .data], laidTests := true, laidLooks := .later }
def FnReadyDaysUptoCardSaid : Prop := Claim7.holds Tryd.pinned (.plain (OpenSpec.upto fnReadyDaysSpec)) fnReadyDaysUptoCard
end Rows
end Go.Proofs.YtlhlbgnhnkfmgaaDoor

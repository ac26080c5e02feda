/-
  DERIVED. GIVEN WITH THE SEED: THE CARDS: each row of YthgeeocmhdpgiaaDoorRows.lean that lists a variable, with what it lists TIED to the program's text (the seventh form; the later family's looks); each row that meets fmt, with fmt's text TOLD by the authors' own Lean function (tested against real Go, not proved from fmt's source: count such statements apart). THE CARD IS WHAT COUNTS. Prove the row's statement (the work); the ties are given (YthgeeocmhdpgiaaDoorTie.lean); close each card by the builder's one call (the guide's Derived/Test/ToyasCard.lean, 'card_holds'). Laid BY PROGRAM, IN A SANDBOX (cutbox-door.mjs). By AI agents, Wed Nov 11 2026. No macro, syntax, notation, axiom, sorry.
-/
import Derived.Test.YthgeeocmhdpgiaaDoorRows
import GoSem.ClaimSeven
namespace Go.Proofs.YthgeeocmhdpgiaaDoor
namespace Rows

/-- THE TIED CARD OF 'laws.FnExactFrameText'. -/
def fnExactFrameTextCard : Claim7 := { stood := { row := fnExactFrameTextRow, standIns := [], harness := (true, "33e0f06fe8539075aa2256f5ab50e973bcd9a34a5d4bce7134dbb8e1f48b041c"), looks := false }, kinds := [], alts := [], laidByText := true, laidKinds := [.data, .data, .data], laidTests := true, laidLooks := .later }
def FnExactFrameTextCardSaid : Prop := Claim7.holds Tryd.pinned (.plain (OpenSpec.ofChange fnExactFrameTextSpec)) fnExactFrameTextCard

/-- THE TIED CARD OF 'laws.FnWalls'. -/
def fnWallsCard : Claim7 := { stood := { row := fnWallsRow, standIns := [], harness := (true, "33e0f06fe8539075aa2256f5ab50e973bcd9a34a5d4bce7134dbb8e1f48b041c"), looks := false }, kinds := [], alts := [], laidByText := true, laidKinds := [.data, .data, .data], laidTests := true, laidLooks := .later }
def FnWallsCardSaid : Prop := Claim7.holds Tryd.pinned (.plain (OpenSpec.ofChange fnWallsSpec)) fnWallsCard

/-- THE SECOND FORM's CARD OF 'laws.FnExactFrameText'. -/
def fnExactFrameTextUptoCard : Claim7 := { stood := { row := fnExactFrameTextUptoRow, standIns := [], harness := (true, "33e0f06fe8539075aa2256f5ab50e973bcd9a34a5d4bce7134dbb8e1f48b041c"), looks := false }, kinds := [], alts := [], laidByText := true, laidKinds := [.data, .data, .data], laidTests := true, laidLooks := .later }
def FnExactFrameTextUptoCardSaid : Prop := Claim7.holds Tryd.pinned (.plain (OpenSpec.upto fnExactFrameTextSpec)) fnExactFrameTextUptoCard

/-- THE SECOND FORM's CARD OF 'laws.FnWalls'. -/
def fnWallsUptoCard : Claim7 := { stood := { row := fnWallsUptoRow, standIns := [], harness := (true, "33e0f06fe8539075aa2256f5ab50e973bcd9a34a5d4bce7134dbb8e1f48b041c"), looks := false }, kinds := [], alts := [], laidByText := true, laidKinds := [.data, .data, .data], laidTests := true, laidLooks := .later }
def FnWallsUptoCardSaid : Prop := Claim7.holds Tryd.pinned (.plain (OpenSpec.upto fnWallsSpec)) fnWallsUptoCard
end Rows
end Go.Proofs.YthgeeocmhdpgiaaDoor

/-
  DERIVED. GIVEN WITH THE SEED: THE CARDS: each row of YtpddilkonkkppaaGreatDoorRows.lean that lists a variable, with what it lists TIED to the program's text (the seventh form; the later family's looks); each row that meets fmt, with fmt's text TOLD by the authors' own Lean function (tested against real Go, not proved from fmt's source: count such statements apart). THE CARD IS WHAT COUNTS. Prove the row's statement (the work); the ties are given (YtpddilkonkkppaaGreatDoorTie.lean); close each card by the builder's one call (the guide's Derived/Test/ToyasCard.lean, 'card_holds'). Laid BY PROGRAM, IN A SANDBOX (cutbox-door.mjs). By AI agents, Wed Nov 11 2026. No macro, syntax, notation, axiom, sorry.
-/
import Derived.Test.YtpddilkonkkppaaGreatDoorRows
import GoSem.ClaimSeven
namespace Go.Proofs.YtpddilkonkkppaaGreatDoor
namespace Rows

/-- THE TIED CARD OF 'laws.FnExactMergeTwo'. -/
def fnExactMergeTwoCard : Claim7 := { stood := { row := fnExactMergeTwoRow, standIns := [], harness := (true, "d850885bc564c8e58991c92a43ec99a182b9ca086c95713a7e06ef9660f11b1d"), looks := false }, kinds := [], alts := [], laidByText := true, laidKinds := [.data, .data, .data], laidTests := true, laidLooks := .later }
def FnExactMergeTwoCardSaid : Prop := Claim7.holds Tryz.pinned (.plain (OpenSpec.ofChange fnExactMergeTwoSpec)) fnExactMergeTwoCard

/-- THE TIED CARD OF 'laws.FnMerging'. -/
def fnMergingCard : Claim7 := { stood := { row := fnMergingRow, standIns := [], harness := (true, "d850885bc564c8e58991c92a43ec99a182b9ca086c95713a7e06ef9660f11b1d"), looks := false }, kinds := [], alts := [], laidByText := true, laidKinds := [.data, .data, .data], laidTests := true, laidLooks := .later }
def FnMergingCardSaid : Prop := Claim7.holds Tryz.pinned (.plain (OpenSpec.ofChange fnMergingSpec)) fnMergingCard

/-- THE SECOND FORM's CARD OF 'laws.FnExactMergeTwo'. -/
def fnExactMergeTwoUptoCard : Claim7 := { stood := { row := fnExactMergeTwoUptoRow, standIns := [], harness := (true, "d850885bc564c8e58991c92a43ec99a182b9ca086c95713a7e06ef9660f11b1d"), looks := false }, kinds := [], alts := [], laidByText := true, laidKinds := [.data, .data, .data], laidTests := true, laidLooks := .later }
def FnExactMergeTwoUptoCardSaid : Prop := Claim7.holds Tryz.pinned (.plain (OpenSpec.upto fnExactMergeTwoSpec)) fnExactMergeTwoUptoCard

/-- THE SECOND FORM's CARD OF 'laws.FnMerging'. -/
def fnMergingUptoCard : Claim7 := { stood := { row := fnMergingUptoRow, standIns := [], harness := (true, "d850885bc564c8e58991c92a43ec99a182b9ca086c95713a7e06ef9660f11b1d"), looks := false }, kinds := [], alts := [], laidByText := true, laidKinds := [.data, .data, .data], laidTests := true, laidLooks := .later }
def FnMergingUptoCardSaid : Prop := Claim7.holds Tryz.pinned (.plain (OpenSpec.upto fnMergingSpec)) fnMergingUptoCard
end Rows
end Go.Proofs.YtpddilkonkkppaaGreatDoor

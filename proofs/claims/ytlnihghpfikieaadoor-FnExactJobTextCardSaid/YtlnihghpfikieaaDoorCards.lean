/-
  DERIVED. GIVEN WITH THE SEED: THE CARDS: each row of YtlnihghpfikieaaDoorRows.lean that lists a variable, with what it lists TIED to the program's text (the seventh form; the later family's looks); each row that meets fmt, with fmt's text TOLD by the authors' own Lean function (tested against real Go, not proved from fmt's source: count such statements apart). THE CARD IS WHAT COUNTS. Prove the row's statement (the work); the ties are given (YtlnihghpfikieaaDoorTie.lean); close each card by the builder's one call (the guide's Derived/Test/ToyasCard.lean, 'card_holds'). Laid BY PROGRAM, IN A SANDBOX (cutbox-door.mjs). By AI agents, Wed Nov 11 2026. No macro, syntax, notation, axiom, sorry.
-/
import Derived.Test.YtlnihghpfikieaaDoorRows
import GoSem.ClaimSeven
namespace Go.Proofs.YtlnihghpfikieaaDoor
namespace Rows

/-- THE TIED CARD OF 'laws.FnExactJobText'. -/
def fnExactJobTextCard : Claim7 := { stood := { row := fnExactJobTextRow, standIns := [], harness := (true, "0982f1505dbefe45a0a8e9d47156f2a169bb293a4ca2bdf8f20e25544731b355"), looks := false }, kinds := [], alts := [], laidByText := true, laidKinds := [.data, .data, .data], laidTests := true, laidLooks := .later }
def FnExactJobTextCardSaid : Prop := Claim7.holds Tryd.pinned (.plain (OpenSpec.ofChange fnExactJobTextSpec)) fnExactJobTextCard

/-- THE SECOND FORM's CARD OF 'laws.FnExactJobText'. -/
def fnExactJobTextUptoCard : Claim7 := { stood := { row := fnExactJobTextUptoRow, standIns := [], harness := (true, "0982f1505dbefe45a0a8e9d47156f2a169bb293a4ca2bdf8f20e25544731b355"), looks := false }, kinds := [], alts := [], laidByText := true, laidKinds := [.data, .data, .data], laidTests := true, laidLooks := .later }
def FnExactJobTextUptoCardSaid : Prop := Claim7.holds Tryd.pinned (.plain (OpenSpec.upto fnExactJobTextSpec)) fnExactJobTextUptoCard
end Rows
end Go.Proofs.YtlnihghpfikieaaDoor

/-
  DERIVED. GIVEN WITH THE SEED: THE CARDS: each row of YtgopcppegjhmiaaDoorRows.lean that lists a variable, with what it lists TIED to the program's text (the seventh form; the later family's looks); each row that meets fmt, with fmt's text TOLD by the authors' own Lean function (tested against real Go, not proved from fmt's source: count such statements apart). THE CARD IS WHAT COUNTS. Prove the row's statement (the work); the ties are given (YtgopcppegjhmiaaDoorTie.lean); close each card by the builder's one call (the guide's Derived/Test/ToyasCard.lean, 'card_holds'). Laid BY PROGRAM, IN A SANDBOX (cutbox-door.mjs). By AI agents, Wed Nov 11 2026. No macro, syntax, notation, axiom, sorry.
-/
import Derived.Test.YtgopcppegjhmiaaDoorRows
import GoSem.ClaimSeven
namespace Go.Proofs.YtgopcppegjhmiaaDoor
namespace Rows

/-- THE TIED CARD OF 'laws.FnWorks'. -/
def fnWorksCard : Claim7 := { stood := { row := fnWorksRow, standIns := [], harness := (true, "c6df1b9ef7c057053673b630403bb6675d57af99e55194c7729afde8f2485fd1"), looks := false }, kinds := [], alts := [], laidByText := true, laidKinds := [.data, .data, .data], laidTests := true, laidLooks := .later }
def FnWorksCardSaid : Prop := Claim7.holds Tryd.pinned (.plain (OpenSpec.ofChange fnWorksSpec)) fnWorksCard

/-- THE SECOND FORM's CARD OF 'laws.FnWorks'. -/
def fnWorksUptoCard : Claim7 := { stood := { row := fnWorksUptoRow, standIns := [], harness := (true, "c6df1b9ef7c057053673b630403bb6675d57af99e55194c7729afde8f2485fd1"), looks := false }, kinds := [], alts := [], laidByText := true, laidKinds := [.data, .data, .data], laidTests := true, laidLooks := .later }
def FnWorksUptoCardSaid : Prop := Claim7.holds Tryd.pinned (.plain (OpenSpec.upto fnWorksSpec)) fnWorksUptoCard
end Rows
end Go.Proofs.YtgopcppegjhmiaaDoor

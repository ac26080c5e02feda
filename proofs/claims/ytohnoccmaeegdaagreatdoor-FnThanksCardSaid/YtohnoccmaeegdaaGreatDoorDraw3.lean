/- The draws of arguments. -/
import Derived.Test.YtohnoccmaeegdaaGreatDoorRows
import Derived.Test.YtohnoccmaeegdaaGreatDoorDraw2
namespace Go.Proofs.YtohnoccmaeegdaaGreatDoor
open Go Go.X Go.Proofs Go.ChangeShapes Go.WideShapes Go.ChangeAt Go.RowKit
open Go.ChangeMaps (open_string shut_string)
set_option maxHeartbeats 1000000
set_option maxRecDepth 20000
set_option linter.unusedVariables false
set_option linter.unusedSimpArgs false
def DLG (w' : World) (lo : Nat) (s : Value) (xs : List Gft) : Prop := xs.length ≤ 13 ∧ (∀ x ∈ xs, fitGft x) ∧ Own w' lo 41 5 s (xs.map encGft)

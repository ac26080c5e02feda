/- The width on a day. -/
import Derived.Test.YthgeeocmhdpgiaaDoorRows
import Derived.Test.YthgeeocmhdpgiaaDoorFrames
namespace Go.Proofs.YthgeeocmhdpgiaaDoor
open Go Go.X Go.Proofs Go.ChangeShapes Go.WideShapes Go.ChangeAt Go.RowKit
open Go.ChangeMaps (open_string shut_string)
set_option maxHeartbeats 1000000
set_option maxRecDepth 20000
set_option linter.unusedVariables false
set_option linter.unusedSimpArgs false
def widthP (xs : List Frm) (wall day : Int) : Int × Bool := if areF xs = true ∧ inB wall 1 4 = true ∧ inB day 0 4000 = true then (wOn xs wall day, true) else (0, false)

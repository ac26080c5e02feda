/- The draws of arguments. -/
import Derived.Test.YthgeeocmhdpgiaaDoorRows
import Derived.Test.YthgeeocmhdpgiaaDoorDraw2
namespace Go.Proofs.YthgeeocmhdpgiaaDoor
open Go Go.X Go.Proofs Go.ChangeShapes Go.WideShapes Go.ChangeAt Go.RowKit
open Go.ChangeMaps (open_string shut_string)
set_option maxHeartbeats 1000000
set_option maxRecDepth 20000
set_option linter.unusedVariables false
set_option linter.unusedSimpArgs false
def DLF (w' : World) (lo : Nat) (s : Value) (xs : List Frm) : Prop := xs.length ≤ 13 ∧ (∀ x ∈ xs, fitFrm x) ∧ Own w' lo 26 5 s (xs.map encFrm)

/- DropOrder. -/
import Derived.Test.YtlhlbgnhnkfmgaaDoorRows
import Derived.Test.YtlhlbgnhnkfmgaaDoorOrders9
namespace Go.Proofs.YtlhlbgnhnkfmgaaDoor
open Go Go.X Go.Proofs Go.ChangeShapes Go.WideShapes Go.ChangeAt Go.RowKit
open Go.ChangeMaps (open_string shut_string)
set_option maxHeartbeats 1000000
set_option maxRecDepth 20000
set_option linter.unusedVariables false
set_option linter.unusedSimpArgs false
def dropP (xs : List Ord) (id : Int) : List Ord × Bool := if waitAt xs id then (xs.eraseIdx (idAt xs id).toNat, true) else ([], false)
theorem dropP_bad {xs : List Ord} {id : Int} (h : waitAt xs id = false) : dropP xs id = ([], false) := by simp [dropP, h]
theorem dropP_good {xs : List Ord} {id : Int} {k : Nat} (h : waitAt xs id = true) (hk : idAt xs id = k) : dropP xs id = (xs.eraseIdx k, true) := by simp [dropP, h, hk]
theorem dropP_len (xs : List Ord) (id : Int) : (dropP xs id).1.length ≤ xs.length := by
  unfold dropP
  split
  · have := List.length_eraseIdx_le xs (idAt xs id).toNat
    simpa using this
  · simp

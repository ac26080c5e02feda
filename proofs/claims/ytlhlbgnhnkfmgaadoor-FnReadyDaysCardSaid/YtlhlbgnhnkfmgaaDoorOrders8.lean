/- FinishOrder, and clones. -/
import Derived.Test.YtlhlbgnhnkfmgaaDoorRows
import Derived.Test.YtlhlbgnhnkfmgaaDoorOrders7
namespace Go.Proofs.YtlhlbgnhnkfmgaaDoor
open Go Go.X Go.Proofs Go.ChangeShapes Go.WideShapes Go.ChangeAt Go.RowKit
open Go.ChangeMaps (open_string shut_string)
set_option maxHeartbeats 1000000
set_option maxRecDepth 20000
set_option linter.unusedVariables false
set_option linter.unusedSimpArgs false
def setR (x : Ord) (day : Int) : Ord := ⟨x.fId, x.fReader, x.fPages, x.fPlaced, day⟩
def finishL (xs : List Ord) (k : Nat) (day : Int) : List Ord := xs.set k (setR (xs.getD k default) day)
def finishP (xs : List Ord) (id day : Int) : List Ord × Bool :=
  if waitAt xs id && inB day 0 4000 && areO (finishL xs (idAt xs id).toNat day) then (finishL xs (idAt xs id).toNat day, true) else ([], false)
theorem finishP_bad {xs : List Ord} {id day : Int} (h : waitAt xs id = false ∨ inB day 0 4000 = false) : finishP xs id day = ([], false) := by
  unfold finishP
  rcases h with h | h <;> simp [h]
theorem finishL_eq {xs : List Ord} {k : Nat} {x : Ord} (day : Int) (hx : xs[k]? = some x) : finishL xs k day = xs.set k (setR x day) := by
  simp [finishL, hx]
theorem finishP_good {xs : List Ord} {id day : Int} {k : Nat} {x : Ord} (h : waitAt xs id = true) (hd : inB day 0 4000 = true) (hk : idAt xs id = k) (hx : xs[k]? = some x) :
    finishP xs id day = if areO (xs.set k (setR x day)) then (xs.set k (setR x day), true) else ([], false) := by
  unfold finishP
  simp [h, hd, hk, finishL_eq day hx]

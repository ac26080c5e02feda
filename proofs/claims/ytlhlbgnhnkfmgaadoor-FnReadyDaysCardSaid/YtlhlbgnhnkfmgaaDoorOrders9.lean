/- PlaceOrder. -/
import Derived.Test.YtlhlbgnhnkfmgaaDoorRows
import Derived.Test.YtlhlbgnhnkfmgaaDoorOrders8
namespace Go.Proofs.YtlhlbgnhnkfmgaaDoor
open Go Go.X Go.Proofs Go.ChangeShapes Go.WideShapes Go.ChangeAt Go.RowKit
open Go.ChangeMaps (open_string shut_string)
set_option maxHeartbeats 1000000
set_option maxRecDepth 20000
set_option linter.unusedVariables false
set_option linter.unusedSimpArgs false
def nextId (xs : List Ord) : Int :=
  match xs.getLast? with
  | some y => y.fId + 1
  | none => 1
theorem nextId_at {xs : List Ord} {k : Nat} {y : Ord} (hy : xs[k]? = some y) (hk : k + 1 = xs.length) : nextId xs = y.fId + 1 := by
  unfold nextId
  rw [List.getLast?_eq_getElem?, show xs.length - 1 = k from by omega, hy]
def newO (xs : List Ord) (r p d : Int) : Ord := ⟨nextId xs, r, p, d, -1⟩
def placeP (xs : List Ord) (r p d : Int) : List Ord × Int × Bool :=
  if areO xs && areO (xs ++ [newO xs r p d]) then (xs ++ [newO xs r p d], nextId xs, true) else ([], 0, false)
theorem placeP_len (xs : List Ord) (r p d : Int) : (placeP xs r p d).1.length ≤ xs.length + 1 := by
  unfold placeP
  split <;> simp

/- OrdersOf. -/
import Derived.Test.YtlhlbgnhnkfmgaaDoorRows
import Derived.Test.YtlhlbgnhnkfmgaaDoorOrders8
namespace Go.Proofs.YtlhlbgnhnkfmgaaDoor
open Go Go.X Go.Proofs Go.ChangeShapes Go.WideShapes Go.ChangeAt Go.RowKit
open Go.ChangeMaps (open_string shut_string)
set_option maxHeartbeats 1000000
set_option maxRecDepth 20000
set_option linter.unusedVariables false
set_option linter.unusedSimpArgs false
def idsOf (r : Int) (xs : List Ord) : List Int := (xs.filter fun x => decide (x.fReader = r)).map (·.fId)
def costOf (r : Int) : List Ord → Int
  | [] => 0
  | x :: t => (if x.fReader = r then price x else 0) + costOf r t
theorem costOf_append (r : Int) (xs ys : List Ord) : costOf r (xs ++ ys) = costOf r xs + costOf r ys := by
  induction xs with
  | nil => simp [costOf]
  | cons x t ih => simp [costOf, ih]; omega
theorem costOf_take (r : Int) {xs : List Ord} {k : Nat} {x : Ord} (h : xs[k]? = some x) : costOf r (xs.take (k + 1)) = costOf r (xs.take k) + (if x.fReader = r then price x else 0) := by
  rw [List.take_add_one, h, costOf_append]; simp [costOf]
theorem idsOf_take (r : Int) {xs : List Ord} {k : Nat} {x : Ord} (h : xs[k]? = some x) : idsOf r (xs.take (k + 1)) = idsOf r (xs.take k) ++ (if x.fReader = r then [x.fId] else []) := by
  rw [List.take_add_one, h]
  simp only [idsOf, Option.toList_some, List.filter_append, List.map_append]
  congr 1
  by_cases hx : x.fReader = r <;> simp [hx]
theorem idsOf_len (r : Int) (xs : List Ord) : (idsOf r xs).length ≤ xs.length := by
  simp [idsOf, List.length_filter_le]
theorem price_bnd {x : Ord} (h : 1 ≤ x.fPages ∧ x.fPages ≤ 50) : 0 ≤ price x ∧ price x ≤ 440 := by
  unfold price; omega
def ordersP (xs : List Ord) (r : Int) : List Int × Int × Bool := if areO xs && inB r 1 999 then (idsOf r xs, costOf r xs, true) else ([], 0, false)
theorem ordersP_len (xs : List Ord) (r : Int) : (ordersP xs r).1.length ≤ xs.length := by
  unfold ordersP
  split
  · exact idsOf_len r xs
  · simp

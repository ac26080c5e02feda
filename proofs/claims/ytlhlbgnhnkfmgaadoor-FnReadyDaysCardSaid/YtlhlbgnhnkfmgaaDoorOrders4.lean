/- What an order costs. -/
import Derived.Test.YtlhlbgnhnkfmgaaDoorRows
import Derived.Test.YtlhlbgnhnkfmgaaDoorOrders3
namespace Go.Proofs.YtlhlbgnhnkfmgaaDoor
open Go Go.X Go.Proofs Go.ChangeShapes Go.WideShapes Go.ChangeAt Go.RowKit
open Go.ChangeMaps (open_string shut_string)
set_option maxHeartbeats 1000000
set_option maxRecDepth 20000
set_option linter.unusedVariables false
set_option linter.unusedSimpArgs false
def price (x : Ord) : Int := 10 * min 20 x.fPages + 8 * max 0 (x.fPages - 20)
instance : Inhabited Ord := ⟨⟨0, 0, 0, 0, 0⟩⟩
def priceP (xs : List Ord) (id : Int) : Int × Bool := if areO xs && decide (0 ≤ idAt xs id) then (price (xs.getD (idAt xs id).toNat default), true) else (0, false)
theorem priceP_bad {xs : List Ord} {id : Int} (h : areO xs = false ∨ idAt xs id = -1) : priceP xs id = (0, false) := by
  unfold priceP
  rcases h with h | h <;> simp [h]
theorem priceP_good {xs : List Ord} {id : Int} {k : Nat} {x : Ord} (h : areO xs = true) (hk : idAt xs id = k) (hx : xs[k]? = some x) : priceP xs id = (price x, true) := by
  unfold priceP
  simp [h, hk, hx]

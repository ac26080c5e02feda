/- JoinGivers. -/
import Derived.Test.YtohnoccmaeegdaaGreatDoorRows
import Derived.Test.YtohnoccmaeegdaaGreatDoorGifts2
import Derived.Test.YtohnoccmaeegdaaGreatDoorGifts4
namespace Go.Proofs.YtohnoccmaeegdaaGreatDoor
open Go Go.X Go.Proofs Go.ChangeShapes Go.WideShapes Go.ChangeAt Go.RowKit
open Go.ChangeMaps (open_string shut_string)
set_option maxHeartbeats 1000000
set_option maxRecDepth 20000
set_option linter.unusedVariables false
set_option linter.unusedSimpArgs false
theorem mapset {f : Gft → Gft} {xs : List Gft} {j : Nat} {x : Gft} (hx : xs[j]? = some x) : ((xs.take j).map f ++ xs.drop j).set j (f x) = (xs.take (j + 1)).map f ++ xs.drop (j + 1) := by
  have hj := (List.getElem?_eq_some_iff.1 hx).1
  have e : xs.drop j = x :: xs.drop (j + 1) := by
    rw [List.drop_eq_getElem_cons hj, (List.getElem?_eq_some_iff.1 hx).2]
  rw [e, List.take_add_one, hx, List.set_append_right _ _ (by simp; omega)]
  have : j - ((xs.take j).map f).length = 0 := by simp; omega
  rw [this, List.set_cons_zero]
  simp
theorem mapget {f : Gft → Gft} {xs : List Gft} {j : Nat} {x : Gft} (hx : xs[j]? = some x) : ((xs.take j).map f ++ xs.drop j)[j]? = some x := by
  have hj := (List.getElem?_eq_some_iff.1 hx).1
  rw [List.getElem?_append_right (by simp; omega)]
  have : j - ((xs.take j).map f).length = 0 := by simp; omega
  rw [this]
  simpa using hx
theorem mapkeep {f : Gft → Gft} {xs : List Gft} {j : Nat} {x : Gft} (hx : xs[j]? = some x) (hf : f x = x) : (xs.take j).map f ++ xs.drop j = (xs.take (j + 1)).map f ++ xs.drop (j + 1) := by
  have hj := (List.getElem?_eq_some_iff.1 hx).1
  have e : xs[j] = x := (List.getElem?_eq_some_iff.1 hx).2
  rw [List.drop_eq_getElem_cons hj, List.take_add_one, hx, e]
  simp [hf]
theorem mapend {f : Gft → Gft} (xs : List Gft) : (xs.take xs.length).map f ++ xs.drop xs.length = xs.map f := by simp
theorem mapsnoc {f : Gft → Gft} {xs : List Gft} {j : Nat} {x : Gft} (hx : xs[j]? = some x) : (xs.take (j + 1)).map f = (xs.take j).map f ++ [f x] := by
  rw [List.take_add_one, hx]; simp
def joinF (fr to : ByteArray) (x : Gft) : Gft := if x.fGiver = fr then ⟨x.fId, to, x.fSheets, x.fDay, x.fThanks⟩ else x
def joinOk (xs : List Gft) (fr to : ByteArray) : Bool := areG xs && okW fr && okW to && !decide (sumG fr xs = 0)
def joinP (xs : List Gft) (fr to : ByteArray) : List Gft × Bool := if joinOk xs fr to then (xs.map (joinF fr to), true) else ([], false)
theorem joinP_len (xs : List Gft) (fr to : ByteArray) : (joinP xs fr to).1.length ≤ xs.length := by
  unfold joinP
  split <;> simp

/- What a placed order and a finished one do. -/
import Derived.Test.YtlhlbgnhnkfmgaaDoorRows
import Derived.Test.YtlhlbgnhnkfmgaaDoorOrders4
import Derived.Test.YtlhlbgnhnkfmgaaDoorOrders9
import Derived.Test.YtlhlbgnhnkfmgaaDoorOrdersA
import Derived.Test.YtlhlbgnhnkfmgaaDoorOrdersB
namespace Go.Proofs.YtlhlbgnhnkfmgaaDoor
open Go Go.X Go.Proofs Go.ChangeShapes Go.WideShapes Go.ChangeAt Go.RowKit
open Go.ChangeMaps (open_string shut_string)
set_option maxHeartbeats 1000000
set_option maxRecDepth 20000
set_option linter.unusedVariables false
set_option linter.unusedSimpArgs false
theorem areO_step {xs : List Ord} (h : areO xs = true) {k : Nat} {x y : Ord} (hx : xs[k]? = some x) (hy : xs[k + 1]? = some y) : x.fId < y.fId := by
  simp only [areO, okUpto, Bool.and_eq_true, List.all_eq_true, List.mem_range] at h
  have hk : k + 1 < xs.length := (List.getElem?_eq_some_iff.1 hy).1
  have := h.1 (k + 1) hk
  simp [okAt, hx, hy] at this
  exact this.2.1
theorem areO_mono {xs : List Ord} (h : areO xs = true) {i : Nat} {x : Ord} (hx : xs[i]? = some x) : ∀ (d : Nat) {y : Ord}, xs[i + d + 1]? = some y → x.fId < y.fId
  | 0, y, hy => areO_step h hx hy
  | d + 1, y, hy => by
    have hk : i + (d + 1) + 1 < xs.length := (List.getElem?_eq_some_iff.1 hy).1
    obtain ⟨z, hz⟩ : ∃ z, xs[i + d + 1]? = some z := ⟨xs[i + d + 1], by simp⟩
    have h1 := areO_mono h hx d hz
    have h2 := areO_step h hz hy
    omega
theorem areO_lt {xs : List Ord} (h : areO xs = true) {i j : Nat} {x y : Ord} (hx : xs[i]? = some x) (hy : xs[j]? = some y) (hij : i < j) : x.fId < y.fId := by
  obtain ⟨d, rfl⟩ : ∃ d, j = i + d + 1 := ⟨j - i - 1, by omega⟩
  exact areO_mono h hx d hy
theorem areO_inj {xs : List Ord} (h : areO xs = true) {i j : Nat} {x y : Ord} (hx : xs[i]? = some x) (hy : xs[j]? = some y) (he : x.fId = y.fId) : i = j := by
  rcases Nat.lt_trichotomy i j with hl | hl | hl
  · have := areO_lt h hx hy hl; omega
  · exact hl
  · have := areO_lt h hy hx hl; omega
theorem idAt_at {xs : List Ord} (h : areO xs = true) {k : Nat} {x : Ord} (hx : xs[k]? = some x) : idAt xs x.fId = k :=
  idAt_hit hx rfl fun j y hj hy he => by have := areO_inj h hy hx he; omega
theorem areO_take {xs : List Ord} {y : Ord} (h : areO (xs ++ [y]) = true) : ∀ x ∈ xs, okO x = true := fun x hx => areO_ok h x (by simp [hx])
theorem place_spec {xs : List Ord} {r p d : Int} (h : (placeP xs r p d).2.2 = true) : areO xs = true ∧ areO (xs ++ [newO xs r p d]) = true ∧ placeP xs r p d = (xs ++ [newO xs r p d], nextId xs, true) := by
  unfold placeP at h ⊢
  split at h
  · rename_i hc
    rw [if_pos hc]
    simp only [Bool.and_eq_true] at hc
    exact ⟨hc.1, hc.2, rfl⟩
  · cases h
theorem costOf_bnd {r : Int} {xs : List Ord} (hall : ∀ x ∈ xs, 1 ≤ x.fPages ∧ x.fPages ≤ 50) : 0 ≤ costOf r xs ∧ costOf r xs ≤ 440 * xs.length := by
  induction xs with
  | nil => simp [costOf]
  | cons x t ih =>
    have := ih (fun y hy => hall y (by simp [hy]))
    have := price_bnd (hall x (by simp))
    simp only [costOf, List.length_cons]
    split <;> omega
theorem place_law {xs : List Ord} {r p d : Int} (h : (placeP xs r p d).2.2 = true) :
    ((waitingP xs).2 = true ∧ (waitingP (placeP xs r p d).1).2 = true ∧ (waitingP (placeP xs r p d).1).1 - (waitingP xs).1 = p ∧ (1 ≤ p ∧ p ≤ 50) ∧ (0 ≤ (waitingP xs).1 ∧ (waitingP xs).1 ≤ 600)) ∧
    dropP (placeP xs r p d).1 (placeP xs r p d).2.1 = (xs, true) ∧ (placeP xs r p d).1.length ≤ 12 ∧
    ((ordersP xs r).2.2 = true ∧ (ordersP (placeP xs r p d).1 r).2.2 = true ∧ (priceP (placeP xs r p d).1 (placeP xs r p d).2.1).2 = true ∧ (ordersP (placeP xs r p d).1 r).2.1 - (ordersP xs r).2.1 = (priceP (placeP xs r p d).1 (placeP xs r p d).2.1).1 ∧
      (0 ≤ (ordersP xs r).2.1 ∧ (ordersP xs r).2.1 ≤ 6000) ∧ (0 ≤ (priceP (placeP xs r p d).1 (placeP xs r p d).2.1).1 ∧ (priceP (placeP xs r p d).1 (placeP xs r p d).2.1).1 ≤ 440) ∧ (placeP xs r p d).2.1 ∈ (ordersP (placeP xs r p d).1 r).1 ∧ (ordersP (placeP xs r p d).1 r).1.length ≤ 12) := by
  obtain ⟨h1, h2, h3⟩ := place_spec h
  rw [h3]
  have hn : (xs ++ [newO xs r p d])[xs.length]? = some (newO xs r p d) := by simp
  have hok := okO_spec (areO_ok h2 (newO xs r p d) (by simp))
  have hid : idAt (xs ++ [newO xs r p d]) (nextId xs) = (xs.length : Nat) := idAt_at h2 hn
  have hlen := areO_len h2
  have hwt : waitAt (xs ++ [newO xs r p d]) (nextId xs) = true := by
    rw [waitAt_good h2 hid hn]; simp [newO]
  have hin : inB r 1 999 = true := by simp [inB]; exact hok.2.1
  have hp := hok.2.2.1
  have hw0 := waitSum_bnd (areO_pages h1).2
  have hpr := price_bnd (x := newO xs r p d) hp
  have hl1 := areO_len h1
  have hc0 := costOf_bnd (r := r) (areO_pages h1).2
  refine ⟨⟨by simp [waitingP, h1], by simp [waitingP, h2], ?_, hp, ?_⟩, ?_, hlen, by simp [ordersP, h1, hin], by simp [ordersP, h2, hin], ?_, ?_, ?_, ?_, ?_, ?_⟩
  · simp only [waitingP, h1, h2, if_true, waitSum_append]
    simp [waitSum, newO]
    omega
  · simp only [waitingP, h1, if_true]
    omega
  · rw [dropP_good hwt hid, List.eraseIdx_append_of_length_le (Nat.le_refl _)]
    simp
  · rw [priceP_good h2 hid hn]
  · rw [priceP_good h2 hid hn]
    simp only [ordersP, h1, h2, hin, Bool.and_self, if_true, costOf_append]
    simp [costOf, newO]
    omega
  · simp only [ordersP, h1, hin, Bool.and_self, if_true]
    omega
  · rw [priceP_good h2 hid hn]
    exact hpr
  · simp only [ordersP, h2, hin, Bool.and_self, if_true]
    simp [idsOf, newO]
  · simp only [ordersP, h2, hin, Bool.and_self, if_true]
    exact Nat.le_trans (idsOf_len r _) hlen
theorem finishP_len (xs : List Ord) (id day : Int) : (finishP xs id day).1.length ≤ xs.length := by
  unfold finishP
  split
  · simp [finishL]
  · simp
theorem finish_law {xs : List Ord} {id day : Int} (h : (finishP xs id day).2 = true) : (dropP (finishP xs id day).1 id).2 = false := by
  unfold finishP at h ⊢
  split at h
  · rename_i hc
    rw [if_pos hc]
    simp only [Bool.and_eq_true] at hc
    obtain ⟨⟨hw, hd⟩, ha⟩ := hc
    dsimp only
    cases hq : waitAt (finishL xs (idAt xs id).toNat day) id with
    | false => simp [dropP, hq]
    | true =>
      exfalso
      rcases idAt_spec xs id with hn | ⟨k, x, hk, hkl, hx, hxi⟩
      · simp [waitAt, hn] at hw
      · rw [hk] at hq ha
        simp only [Int.toNat_natCast] at hq ha
        rw [finishL_eq day hx] at hq ha
        rcases idAt_spec (xs.set k (setR x day)) id with hn | ⟨j, y, hj, hjl, hy, hyi⟩
        · simp [waitAt, hn] at hq
        · have hz : (xs.set k (setR x day))[k]? = some (setR x day) := by simp [hkl]
          have := areO_inj ha hy hz (by rw [hyi, setR, hxi])
          subst this
          rw [hz] at hy
          obtain rfl := Option.some.inj hy
          rw [waitAt_good ha hj hz] at hq
          have hq : (setR x day).fReady = -1 := of_decide_eq_true hq
          have hq : day = -1 := hq
          simp [inB] at hd
          omega
  · cases h

end Go.Proofs.YtlhlbgnhnkfmgaaDoor

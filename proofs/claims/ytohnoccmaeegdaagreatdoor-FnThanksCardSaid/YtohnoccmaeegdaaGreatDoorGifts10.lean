/- ThankFor. -/
import Derived.Test.YtohnoccmaeegdaaGreatDoorRows
import Derived.Test.YtohnoccmaeegdaaGreatDoorGifts6
namespace Go.Proofs.YtohnoccmaeegdaaGreatDoor
open Go Go.X Go.Proofs Go.ChangeShapes Go.WideShapes Go.ChangeAt Go.RowKit
open Go.ChangeMaps (open_string shut_string)
set_option maxHeartbeats 1000000
set_option maxRecDepth 20000
set_option linter.unusedVariables false
set_option linter.unusedSimpArgs false
def tkB (id : Int) (x : Gft) : Bool := decide (x.fId = id) && decide (x.fThanks = -1)
def setT (x : Gft) (d : Int) : Gft := ⟨x.fId, x.fGiver, x.fSheets, x.fDay, d⟩
def tkF (id d : Int) (x : Gft) : Gft := if tkB id x then setT x d else x
def thankP (xs : List Gft) (id d : Int) : List Gft × Bool :=
  if areG xs && xs.any (tkB id) && inB d 0 4000 && areG (xs.map (tkF id d)) then (xs.map (tkF id d), true) else ([], false)
theorem thankP_len (xs : List Gft) (id d : Int) : (thankP xs id d).1.length ≤ xs.length := by
  unfold thankP
  split <;> simp
theorem thankP_bad {xs : List Gft} {id d : Int} (h : areG xs = false ∨ xs.any (tkB id) = false ∨ inB d 0 4000 = false) : thankP xs id d = ([], false) := by
  unfold thankP
  rcases h with h | h | h <;> simp [h]
theorem thankP_good {xs : List Gft} {id d : Int} (h1 : areG xs = true) (h2 : xs.any (tkB id) = true) (h3 : inB d 0 4000 = true) : thankP xs id d = if areG (xs.map (tkF id d)) then (xs.map (tkF id d), true) else ([], false) := by
  unfold thankP
  simp only [h1, h2, h3, Bool.true_and]
theorem idAt_neg {xs : List Gft} {id : Int} (h : idAt xs id = -1) : ∀ x ∈ xs, x.fId ≠ id := by
  unfold idAt at h
  cases hf : xs.findIdx? (fun x => x.fId == id) with
  | none =>
    rw [List.findIdx?_eq_none_iff] at hf
    intro x hx
    simpa using hf x hx
  | some k =>
    rw [hf] at h
    simp only at h
    omega
theorem areG_lt {xs : List Gft} (h : areG xs = true) : ∀ (m i : Nat) (x y : Gft), xs[i]? = some x → xs[i + (m + 1)]? = some y → x.fId < y.fId := by
  have hstep : ∀ (i : Nat) (x y : Gft), xs[i]? = some x → xs[i + 1]? = some y → x.fId < y.fId := by
    intro i x y hx hy
    simp only [areG, gUpto, Bool.and_eq_true, List.all_eq_true, List.mem_range] at h
    have hk := (List.getElem?_eq_some_iff.1 hy).1
    have := h.1 (i + 1) hk
    simp only [gAt, hy, Nat.add_sub_cancel, hx, Bool.and_eq_true, Bool.or_eq_true, decide_eq_true_eq] at this
    rcases this.2 with h0 | h0
    · simp at h0
    · exact h0.1
  intro m
  induction m with
  | zero => exact hstep
  | succ m ih =>
    intro i x y hx hy
    obtain ⟨z, hz⟩ : ∃ z, xs[i + (m + 1)]? = some z := by
      have hk := (List.getElem?_eq_some_iff.1 hy).1
      exact ⟨xs[i + (m + 1)]'(by omega), by simp⟩
    have h1 := ih i x z hx hz
    have h2 := hstep (i + (m + 1)) z y hz (by rw [show i + (m + 1) + 1 = i + (m + 1 + 1) from by omega]; exact hy)
    omega
theorem areG_uniq {xs : List Gft} (h : areG xs = true) {i j : Nat} {x y : Gft} (hx : xs[i]? = some x) (hy : xs[j]? = some y) (he : x.fId = y.fId) : i = j := by
  rcases Nat.lt_trichotomy i j with hl | hl | hl
  · obtain ⟨m, rfl⟩ : ∃ m, j = i + (m + 1) := ⟨j - i - 1, by omega⟩
    have := areG_lt h m i x y hx hy; omega
  · exact hl
  · obtain ⟨m, rfl⟩ : ∃ m, i = j + (m + 1) := ⟨i - j - 1, by omega⟩
    have := areG_lt h m j y x hy hx; omega
theorem tk_set {xs : List Gft} (h : areG xs = true) {k : Nat} {x : Gft} {id : Int} (d : Int) (hx : xs[k]? = some x) (hid : x.fId = id) (ht : x.fThanks = -1) : xs.map (tkF id d) = xs.set k (setT x d) := by
  apply List.ext_getElem?
  intro i
  rw [List.getElem?_map]
  by_cases hik : k = i
  · subst hik
    rw [hx, List.getElem?_set_self (List.getElem?_eq_some_iff.1 hx).1]
    simp [tkF, tkB, hid, ht]
  · rw [List.getElem?_set_ne hik]
    cases hy : xs[i]? with
    | none => rfl
    | some y =>
      have : ¬ y.fId = id := fun e => hik (areG_uniq h hx hy (by rw [hid, e]))
      simp [tkF, tkB, this]
theorem tk_any {xs : List Gft} {k : Nat} {x : Gft} {id : Int} (hx : xs[k]? = some x) (hid : x.fId = id) (ht : x.fThanks = -1) : xs.any (tkB id) = true := by
  rw [List.any_eq_true]
  exact ⟨x, List.mem_of_getElem? hx, by simp [tkB, hid, ht]⟩
theorem tk_none {xs : List Gft} (h : areG xs = true) {k : Nat} {x : Gft} {id : Int} (hx : xs[k]? = some x) (hid : x.fId = id) (ht : ¬ x.fThanks = -1) : xs.any (tkB id) = false := by
  rw [List.any_eq_false]
  intro y hy
  obtain ⟨j, hj⟩ := List.getElem?_of_mem hy
  by_cases e : y.fId = id
  · have := areG_uniq h hx hj (by rw [hid, e])
    subst this
    rw [hx] at hj; cases hj
    simp [tkB, ht]
  · simp [tkB, e]

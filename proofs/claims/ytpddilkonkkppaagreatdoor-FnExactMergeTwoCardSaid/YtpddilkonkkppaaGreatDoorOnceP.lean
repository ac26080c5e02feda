/- The first two alike entries, plainly. -/
import Derived.Test.YtpddilkonkkppaaGreatDoorRows
import Derived.Test.YtpddilkonkkppaaGreatDoorSAt
namespace Go.Proofs.YtpddilkonkkppaaGreatDoor
open Go Go.X Go.Proofs Go.ChangeShapes Go.WideShapes Go.ChangeAt Go.RowKit
open Go.ChangeMaps (open_string shut_string)
set_option maxHeartbeats 1000000
set_option maxRecDepth 20000
set_option linter.unusedVariables false
set_option linter.unusedSimpArgs false
theorem find_hit {α : Type} {f : Nat → Option α} {n k : Nat} {r : α} (hk : k < n) (hr : f k = some r) (hno : ∀ j, j < k → f j = none) : (List.range n).findSome? f = some r := by
  induction n with
  | zero => omega
  | succ n ih =>
    rw [List.range_succ, List.findSome?_append]
    rcases Nat.lt_or_ge k n with h | h
    · rw [ih h]; rfl
    · obtain rfl : k = n := by omega
      have : (List.range k).findSome? f = none := by
        rw [List.findSome?_eq_none_iff]
        intro j hj
        exact hno j (by simpa using hj)
      rw [this]
      simp [hr]
theorem find_no {α : Type} {f : Nat → Option α} {n : Nat} (hno : ∀ j, j < n → f j = none) : (List.range n).findSome? f = none := by
  rw [List.findSome?_eq_none_iff]
  intro j hj
  exact hno j (by simpa using hj)
def alikeAt (es : List Ent) (i k : Nat) : Bool :=
  match es[i]?, es[k]? with
  | some x, some y => alikeB x y
  | _, _ => false
theorem alikeAt_get {es : List Ent} {i k : Nat} {x y : Ent} (hx : es[i]? = some x) (hy : es[k]? = some y) : alikeAt es i k = alikeB x y := by unfold alikeAt; rw [hx, hy]
def okPair (es : List Ent) (i k : Nat) : Bool := decide (i < k) && alikeAt es i k && areE (mergeP es i k)
def rowP (es : List Ent) (i : Nat) : Option (List Ent) := (List.range es.length).findSome? fun k => if okPair es i k then some (mergeP es i k) else none
def onceP (es : List Ent) : Option (List Ent) := (List.range es.length).findSome? (rowP es)
def nextP (es : List Ent) : List Ent := (onceP es).getD es
theorem rowP_none {es : List Ent} {i : Nat} (h : ∀ k, i < k → k < es.length → okPair es i k = false) : rowP es i = none :=
  find_no fun k hk => by
    by_cases hik : i < k
    · rw [h k hik hk]; rfl
    · have : okPair es i k = false := by unfold okPair; rw [decide_eq_false hik]; rfl
      rw [this]; rfl
theorem onceP_hit {es : List Ent} {i k : Nat} (hi : i < es.length) (hk : k < es.length) (h : okPair es i k = true) (h1 : ∀ j, j < i → rowP es j = none) (h2 : ∀ j, i < j → j < k → okPair es i j = false) : onceP es = some (mergeP es i k) := by
  refine find_hit hi ?_ h1
  refine find_hit hk (by rw [h]; rfl) (fun j hj => ?_)
  by_cases hij : i < j
  · rw [h2 j hij hj]; rfl
  · have : okPair es i j = false := by unfold okPair; rw [decide_eq_false hij]; rfl
    rw [this]; rfl
theorem onceP_none {es : List Ent} (h : ∀ j, j < es.length → rowP es j = none) : onceP es = none := find_no h
theorem onceP_some {es fs : List Ent} (h : onceP es = some fs) : ∃ i k, i < k ∧ k < es.length ∧ okPair es i k = true ∧ fs = mergeP es i k := by
  unfold onceP at h
  obtain ⟨i, hi, h1⟩ := List.exists_of_findSome?_eq_some h
  unfold rowP at h1
  obtain ⟨k, hk, h2⟩ := List.exists_of_findSome?_eq_some h1
  rw [List.mem_range] at hi hk
  split at h2
  · rename_i ho
    cases h2
    refine ⟨i, k, ?_, hk, ho, rfl⟩
    unfold okPair at ho
    simp only [Bool.and_eq_true, decide_eq_true_eq] at ho
    exact ho.1.1
  · cases h2
theorem mergeP_len {es : List Ent} {i k : Nat} (hi : i < es.length) (hk : k < es.length) : (mergeP es i k).length + 1 = es.length := by
  rw [mergeP_at (List.getElem?_eq_getElem hi) (List.getElem?_eq_getElem hk), List.length_eraseIdx, List.length_set, if_pos hk]
  omega
theorem rising_up {xs : List Int} (h : rising xs = true) : Up xs := by
  unfold rising riseUp at h
  rw [List.all_eq_true] at h
  have hs : ∀ j (h1 : j + 1 < xs.length), xs[j] < xs[j + 1] := by
    intro j h1
    have := h (j + 1) (by simpa using h1)
    rw [riseAt_get (by omega) (List.getElem?_eq_getElem h1) (List.getElem?_eq_getElem (by omega : j + 1 - 1 < xs.length))] at this
    simpa using this
  unfold Up
  rw [List.pairwise_iff_getElem]
  intro i j hi hj hij
  induction j with
  | zero => omega
  | succ j ih =>
    have := hs j hj
    rcases Nat.lt_or_ge i j with h | h
    · have := ih (by omega) h; omega
    · obtain rfl : i = j := by omega
      omega
theorem areE_at {es : List Ent} (h : areE es = true) {k : Nat} {x : Ent} (hx : es[k]? = some x) : okE x = true ∧ x.fSeen.all (seenAt es k) = true ∧ gAtE es k = true := by
  have hk := (List.getElem?_eq_some_iff.1 hx).1
  unfold areE eUp at h
  rw [Bool.and_eq_true, List.all_eq_true] at h
  have h1 := h.1 k (by simpa using hk)
  unfold eAt at h1
  rw [Bool.and_eq_true, hx] at h1
  refine ⟨?_, h1.2, h1.1⟩
  have h2 := h1.1
  unfold gAtE at h2
  rw [hx] at h2
  simp only [Bool.and_eq_true] at h2
  exact h2.1
theorem areE_len {es : List Ent} (h : areE es = true) : es.length ≤ 12 := by
  unfold areE at h
  rw [Bool.and_eq_true] at h
  exact of_decide_eq_true h.2
theorem okE_facts {x : Ent} (h : okE x = true) : x.fSeen.length ≤ 8 ∧ Up x.fSeen ∧ x.fId ∉ x.fSeen ∧ (0 ≤ x.fCount ∧ x.fCount ≤ 99) ∧ (0 ≤ x.fYear ∧ x.fYear ≤ 2100) ∧ (1 ≤ x.fId ∧ x.fId ≤ 999) ∧ ∀ s ∈ x.fSeen, 1 ≤ s ∧ s ≤ 999 := by
  unfold okE okS at h
  simp only [Bool.and_eq_true, Bool.or_eq_true, decide_eq_true_eq, Bool.not_eq_true', List.any_eq_false] at h
  obtain ⟨⟨⟨⟨⟨⟨⟨h1, h2⟩, h3⟩, h4⟩, h5⟩, h6⟩, h7⟩, h8⟩ := h
  refine ⟨h1, rising_up h2, fun hin => (h3 _ hin) (by simp), inB_iff.1 h8, ?_, inB_iff.1 h4, fun s hs => ?_⟩
  · rcases h7 with h7 | h7
    · omega
    · have := inB_iff.1 h7; omega
  · have := h3 s hs
    simp only [Bool.not_eq_true, Bool.or_eq_true, not_or, Bool.not_eq_false'] at this
    have h9 : inB s 1 999 = true := by
      cases hb : inB s 1 999 with
      | true => rfl
      | false => rw [hb] at this; simp at this
    exact inB_iff.1 h9
theorem areE_nodup {es : List Ent} (h : areE es = true) {i k : Nat} {x y : Ent} (hx : es[i]? = some x) (hy : es[k]? = some y) (hik : i ≠ k) : Up x.fSeen ∧ (x.fSeen ++ y.fSeen ++ [y.fId]).Nodup := by
  obtain ⟨ox, sx, -⟩ := areE_at h hx
  obtain ⟨oy, sy, -⟩ := areE_at h hy
  have fx := okE_facts ox
  have fy := okE_facts oy
  have hno : ∀ s ∈ x.fSeen, knowsB s y = false := fun s hs => (seenAt_iff hx hs).1 (List.all_eq_true.1 sx s hs) k y (fun e => hik e.symm) hy
  refine ⟨fx.2.1, ?_⟩
  rw [List.append_assoc]
  refine List.nodup_append.2 ⟨up_nodup fx.2.1, List.nodup_append.2 ⟨up_nodup fy.2.1, by simp, fun a ha b hb => ?_⟩, fun a ha b hb => ?_⟩
  · rw [List.mem_singleton] at hb
    rw [hb]
    intro e
    exact fy.2.2.1 (e ▸ ha)
  · intro e
    subst e
    have := hno a ha
    unfold knowsB at this
    simp only [Bool.or_eq_false_iff, decide_eq_false_iff_not] at this
    rcases List.mem_append.1 hb with h' | h'
    · exact this.2 h'
    · rw [List.mem_singleton] at h'
      exact this.1 h'.symm

end Go.Proofs.YtpddilkonkkppaaGreatDoor

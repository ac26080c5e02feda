/- Part 12: insertion, in order of a key, of what stands behind. -/
import Derived.Test.YtpddilkonkkppaaGreatDoorLib5
import Derived.Laws.Strings
import Derived.WideShapes
namespace Go.X
open Go Go.RowKit

section
variable {α : Type} (key : α → Int)
def insK (s : List α) (x : α) : List α := s.filter (fun y => decide (key y ≤ key x)) ++ x :: s.filter (fun y => decide (key x < key y))
def isort (xs : List α) : List α := xs.foldl (insK key) []
def Sorted (s : List α) : Prop := s.Pairwise fun a b => key a ≤ key b
theorem isort_take {xs : List α} {k : Nat} {x : α} (h : xs[k]? = some x) : isort key (xs.take (k + 1)) = insK key (isort key (xs.take k)) x := by
  unfold isort
  rw [List.take_add_one, h]; simp
theorem insK_sorted {s : List α} (x : α) (h : Sorted key s) : Sorted key (insK key s x) := by
  unfold insK Sorted
  rw [List.pairwise_append]
  refine ⟨List.Pairwise.filter _ h, ?_, ?_⟩
  · rw [List.pairwise_cons]
    refine ⟨fun y hy => ?_, List.Pairwise.filter _ h⟩
    have := (List.mem_filter.1 hy).2
    simp at this; omega
  · intro a ha b hb
    have h1 := (List.mem_filter.1 ha).2
    simp at h1
    rcases List.mem_cons.1 hb with rfl | hb
    · exact h1
    · have h2 := (List.mem_filter.1 hb).2
      simp at h2; omega
theorem insK_len (s : List α) (x : α) : (insK key s x).length = s.length + 1 := by
  unfold insK
  have : ∀ l : List α, (l.filter (fun y => decide (key y ≤ key x))).length + (l.filter (fun y => decide (key x < key y))).length = l.length := by
    intro l
    induction l with
    | nil => rfl
    | cons y r ih =>
      by_cases hy : key y ≤ key x
      · have : ¬ key x < key y := by omega
        simp [hy, this]; omega
      · have : key x < key y := by omega
        simp [hy, this]; omega
  have := this s
  simp only [List.length_append, List.length_cons]
  omega
theorem insK_keep (s : List α) (x : α) (v : Int) : (insK key s x).filter (fun y => decide (key y = v)) = s.filter (fun y => decide (key y = v)) ++ (if key x = v then [x] else []) := by
  unfold insK
  rw [List.filter_append, List.filter_cons, List.filter_filter, List.filter_filter]
  by_cases h1 : key x = v
  · have e1 : s.filter (fun y => decide (key y = v) && decide (key y ≤ key x)) = s.filter (fun y => decide (key y = v)) := by
      congr 1; funext y
      by_cases hy : key y = v
      · simp [hy]; omega
      · simp [hy]
    have e2 : s.filter (fun y => decide (key y = v) && decide (key x < key y)) = [] := by
      rw [List.filter_eq_nil_iff]
      intro y _
      by_cases hy : key y = v
      · simp [hy]; omega
      · simp [hy]
    rw [e1, e2]; simp [h1]
  · by_cases h2 : v < key x
    · have e1 : s.filter (fun y => decide (key y = v) && decide (key y ≤ key x)) = s.filter (fun y => decide (key y = v)) := by
        congr 1; funext y
        by_cases hy : key y = v
        · simp [hy]; omega
        · simp [hy]
      have e2 : s.filter (fun y => decide (key y = v) && decide (key x < key y)) = [] := by
        rw [List.filter_eq_nil_iff]
        intro y _
        by_cases hy : key y = v
        · simp [hy]; omega
        · simp [hy]
      rw [e1, e2]; simp [h1]
    · have e1 : s.filter (fun y => decide (key y = v) && decide (key y ≤ key x)) = [] := by
        rw [List.filter_eq_nil_iff]
        intro y _
        by_cases hy : key y = v
        · simp [hy]; omega
        · simp [hy]
      have e2 : s.filter (fun y => decide (key y = v) && decide (key x < key y)) = s.filter (fun y => decide (key y = v)) := by
        congr 1; funext y
        by_cases hy : key y = v
        · simp [hy]; omega
        · simp [hy]
      rw [e1, e2]; simp [h1]
theorem isort_all (xs : List α) : ∀ k, k ≤ xs.length → Sorted key (isort key (xs.take k)) ∧ (isort key (xs.take k)).length = k ∧ ∀ v, (isort key (xs.take k)).filter (fun y => decide (key y = v)) = (xs.take k).filter (fun y => decide (key y = v))
  | 0, _ => ⟨by simp [isort, Sorted], by simp [isort], fun v => by simp [isort]⟩
  | k + 1, hk => by
    obtain ⟨x, hx⟩ : ∃ x, xs[k]? = some x := ⟨xs[k]'(by omega), by simp⟩
    obtain ⟨h1, h2, h3⟩ := isort_all xs k (by omega)
    rw [isort_take key hx]
    refine ⟨insK_sorted key x h1, by rw [insK_len, h2], fun v => ?_⟩
    rw [insK_keep, h3, List.take_add_one, hx]
    simp only [Option.toList_some, List.filter_append]
    congr 1
    by_cases hv : key x = v <;> simp [hv]
/-- where x goes in a list in order. -/
theorem insK_at {s : List α} {x : α} (j : Nat) (hj : j ≤ s.length) (hs : Sorted key s) (hhi : ∀ y ∈ s.drop j, key x < key y) (hlo : ∀ (y : α), 0 < j → s[j - 1]? = some y → key y ≤ key x) : insK key s x = s.take j ++ x :: s.drop j := by
  have hle : ∀ y ∈ s.take j, key y ≤ key x := by
    intro y hy
    obtain ⟨i, hi⟩ := List.getElem?_of_mem hy
    have hij : i < j := by
      have := (List.getElem?_eq_some_iff.1 hi).1
      simp at this; omega
    rw [List.getElem?_take, if_pos hij] at hi
    obtain ⟨z, hz⟩ : ∃ z, s[j - 1]? = some z := ⟨s[j - 1]'(by omega), by simp⟩
    have h2 := hlo z (by omega) hz
    rcases Nat.lt_or_ge i (j - 1) with h | h
    · have hp := List.pairwise_iff_getElem.1 hs i (j - 1) (by omega) (by omega) h
      have e1 : s[i]'(by omega) = y := by
        have := (List.getElem?_eq_some_iff.1 hi).2; exact this
      have e2 : s[j - 1]'(by omega) = z := (List.getElem?_eq_some_iff.1 hz).2
      rw [e1, e2] at hp; omega
    · obtain rfl : i = j - 1 := by omega
      rw [hi] at hz; cases hz; exact h2
  unfold insK
  have e1 : s.filter (fun y => decide (key y ≤ key x)) = s.take j := by
    conv => lhs; rw [← List.take_append_drop j s]
    rw [List.filter_append]
    have a : (s.take j).filter (fun y => decide (key y ≤ key x)) = s.take j := by
      rw [List.filter_eq_self]; intro y hy; simpa using hle y hy
    have b : (s.drop j).filter (fun y => decide (key y ≤ key x)) = [] := by
      rw [List.filter_eq_nil_iff]; intro y hy; have := hhi y hy; simp; omega
    rw [a, b]; simp
  have e2 : s.filter (fun y => decide (key x < key y)) = s.drop j := by
    conv => lhs; rw [← List.take_append_drop j s]
    rw [List.filter_append]
    have a : (s.take j).filter (fun y => decide (key x < key y)) = [] := by
      rw [List.filter_eq_nil_iff]; intro y hy; have := hle y hy; simp; omega
    have b : (s.drop j).filter (fun y => decide (key x < key y)) = s.drop j := by
      rw [List.filter_eq_self]; intro y hy; simpa using hhi y hy
    rw [a, b]; simp
  rw [e1, e2]
theorem sorted_walls : ∀ {s : List α}, Sorted key s → (∀ x ∈ s, 1 ≤ key x ∧ key x ≤ 4) →
    s = s.filter (fun y => decide (key y = 1)) ++ s.filter (fun y => decide (key y = 2)) ++ s.filter (fun y => decide (key y = 3)) ++ s.filter (fun y => decide (key y = 4))
  | [], _, _ => rfl
  | x :: r, hs, hb => by
    have hs' := List.pairwise_cons.1 hs
    have ih := sorted_walls (s := r) hs'.2 (fun y hy => hb y (by simp [hy]))
    have hx := hb x (by simp)
    have empty : ∀ v : Int, v < key x → r.filter (fun y => decide (key y = v)) = [] := by
      intro v hv
      rw [List.filter_eq_nil_iff]
      intro y hy
      have := hs'.1 y hy
      simp; omega
    have hc : key x = 1 ∨ key x = 2 ∨ key x = 3 ∨ key x = 4 := by omega
    rcases hc with h | h | h | h
    · simp only [List.filter_cons, h]
      simp
      simpa using ih
    · have e1 := empty 1 (by omega)
      rw [e1] at ih
      simp only [List.filter_cons, h, e1]
      simp
      simpa using ih
    · have e1 := empty 1 (by omega)
      have e2 := empty 2 (by omega)
      rw [e1, e2] at ih
      simp only [List.filter_cons, h, e1, e2]
      simp
      simpa using ih
    · have e1 := empty 1 (by omega)
      have e2 := empty 2 (by omega)
      have e3 := empty 3 (by omega)
      rw [e1, e2, e3] at ih
      simp only [List.filter_cons, h, e1, e2, e3]
      simp
      simpa using ih
omit key in
theorem swap_ins {s rest : List α} {x z : α} {q : Nat} (hq : 0 < q) (hz : s[q - 1]? = some z) : ((s.take q ++ x :: s.drop q ++ rest).set q z).set (q - 1) x = s.take (q - 1) ++ x :: s.drop (q - 1) ++ rest := by
  have hl : q - 1 < s.length := (List.getElem?_eq_some_iff.1 hz).1
  obtain ⟨A, hA⟩ : ∃ A, A = s.take (q - 1) := ⟨_, rfl⟩
  have hAl : A.length = q - 1 := by rw [hA]; simp; omega
  have e9 : s.take q = A ++ [z] := by
    have := List.take_add_one (l := s) (i := q - 1)
    rw [show q - 1 + 1 = q from by omega, hz, ← hA] at this
    exact this
  have e10 : s.drop (q - 1) = z :: s.drop q := by
    rw [List.drop_eq_getElem_cons hl, (List.getElem?_eq_some_iff.1 hz).2, show q - 1 + 1 = q from by omega]
  rw [e9, e10, ← hA]
  have e1 : A ++ [z] ++ x :: s.drop q ++ rest = A ++ (z :: x :: (s.drop q ++ rest)) := by simp
  rw [e1, List.set_append_right _ _ (by omega), show q - A.length = 1 from by omega]
  simp only [List.set_cons_succ, List.set_cons_zero]
  rw [List.set_append_right _ _ (by omega), show q - 1 - A.length = 0 from by omega]
  simp
end
/-- a call that may write blocks of the caller's own making, to which the caller's boxes are handed. -/
theorem callMB {P : Program} {m : Nat → Prop} {w0 : World} {N : Nat} {fr : Nat} {E : List (Nat × TV)} {B : List Bx} {w : World} {g : FuncId} {args : List Value} {k : Value → World → Prop} (hb : hasBody P g = true)
    (h : ∃ (mm : Nat → Prop) (R : Value → World → Prop), NotIn mm B ∧ (∀ b, b < w0.heap.size → mm b → m b) ∧ (Boxes ⟨E, B, w⟩ → Calls P g args.toArray w (fun e w' => ∃ r, e = .returned r ∧ Ext mm w w' ∧ R r w')) ∧ ∀ r w', Ext mm w w' → R r w' → k r w') : CALL ⟨P, m, w0, N, fr⟩ ⟨E, B, w⟩ g args k := by
  obtain ⟨mm, R, h1, h2, h3, h4⟩ := h
  exact CALL.mut mm hb h1 h2 fun _ hbx => (h3 hbx).mono fun _ w' ⟨r, e, x, hr⟩ => ⟨r, e, x, h4 r w' x hr⟩
/-! ### texts compared -/
theorem str_beq (a b : ByteArray) : (a.toList == b.toList) = decide (a = b) := by
  rw [ByteArray.toList_eq, ByteArray.toList_eq]
  by_cases h : a = b
  · subst h; simp
  · have : ¬ a.data.toList = b.data.toList := fun e => h (Go.WideShapes.bytes_inj e)
    rw [decide_eq_false h]
    simpa using this
theorem BIF.seq {a b : ByteArray} {p q : Prop} (hp : a = b → p) (hq : ¬ a = b → q) : BIF (a.toList == b.toList) p q := by rw [str_beq]; exact BIF.dec hp hq
theorem BIF.sne {a b : ByteArray} {p q : Prop} (hp : ¬ a = b → p) (hq : a = b → q) : BIF (!(a.toList == b.toList)) p q := BIF.not (BIF.seq hq hp)
end Go.X

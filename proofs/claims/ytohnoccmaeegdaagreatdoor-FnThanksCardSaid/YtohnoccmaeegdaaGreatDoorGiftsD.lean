/- Insertion. -/
import Derived.Test.YtohnoccmaeegdaaGreatDoorRows
import Derived.Test.YtohnoccmaeegdaaGreatDoorBase
namespace Go.Proofs.YtohnoccmaeegdaaGreatDoor
open Go Go.X Go.Proofs Go.ChangeShapes Go.WideShapes Go.ChangeAt Go.RowKit
open Go.ChangeMaps (open_string shut_string)
set_option maxHeartbeats 1000000
set_option maxRecDepth 20000
set_option linter.unusedVariables false
set_option linter.unusedSimpArgs false
section
variable {α : Type} [DecidableEq α] (lt : α → α → Bool)
def insR (s : List α) (x : α) : List α := s.take (s.length - (s.reverse.takeWhile (lt x)).length) ++ x :: s.drop (s.length - (s.reverse.takeWhile (lt x)).length)
omit [DecidableEq α] in
theorem insR_at {s : List α} {x : α} (q : Nat) (hq : q ≤ s.length) (hhi : ∀ y ∈ s.drop q, lt x y = true) (hlo : ∀ y, 0 < q → s[q - 1]? = some y → lt x y = false) : insR lt s x = s.take q ++ x :: s.drop q := by
  have hw : s.reverse.takeWhile (lt x) = (s.drop q).reverse := by
    conv => lhs; rw [← List.take_append_drop q s, List.reverse_append]
    rw [List.takeWhile_append_of_pos (fun y hy => hhi y (List.mem_reverse.1 hy))]
    have : (s.take q).reverse.takeWhile (lt x) = [] := by
      rcases Nat.eq_zero_or_pos q with h0 | h0
      · subst h0; rfl
      · obtain ⟨y, hy⟩ : ∃ y, s[q - 1]? = some y := ⟨s[q - 1]'(by omega), by simp⟩
        have e : s.take q = s.take (q - 1) ++ [y] := by
          have := List.take_add_one (l := s) (i := q - 1)
          rw [show q - 1 + 1 = q from by omega, hy] at this
          exact this
        rw [e, List.reverse_append]
        simp [hlo y h0 hy]
    rw [this, List.append_nil]
  unfold insR
  rw [hw, List.length_reverse, List.length_drop, show s.length - (s.length - q) = q from by omega]
omit [DecidableEq α] in
/-- where it goes. -/
theorem insR_pos (s : List α) (x : α) : ∃ q, q ≤ s.length ∧ insR lt s x = s.take q ++ x :: s.drop q ∧ (∀ y ∈ s.drop q, lt x y = true) ∧ (∀ y, 0 < q → s[q - 1]? = some y → lt x y = false) := by
  have key : ∀ d, d ≤ s.length → (∀ y ∈ s.drop (s.length - d), lt x y = true) → ∃ q, q ≤ s.length ∧ (∀ y ∈ s.drop q, lt x y = true) ∧ (∀ y, 0 < q → s[q - 1]? = some y → lt x y = false) := by
    intro d
    induction hn : s.length - d generalizing d with
    | zero => intro hd h; exact ⟨0, Nat.zero_le _, h, fun y h0 => by omega⟩
    | succ m ih =>
      intro hd h
      obtain ⟨y, hy⟩ : ∃ y, s[m]? = some y := ⟨s[m]'(by omega), by simp⟩
      cases hl : lt x y with
      | true =>
        refine ih (d + 1) (by omega) (by omega) ?_
        intro z hz
        rw [List.drop_eq_getElem_cons (by omega)] at hz
        rcases List.mem_cons.1 hz with rfl | hz
        · rw [(List.getElem?_eq_some_iff.1 hy).2]; exact hl
        · exact h z hz
      | false =>
        refine ⟨m + 1, by omega, h, fun z _ hz => ?_⟩
        rw [Nat.add_sub_cancel, hy] at hz
        cases hz; exact hl
  obtain ⟨q, h1, h2, h3⟩ := key 0 (Nat.zero_le _) (by rw [Nat.sub_zero, List.drop_length]; simp)
  exact ⟨q, h1, insR_at lt q h1 h2 h3, h2, h3⟩
omit [DecidableEq α] in
theorem insR_len (s : List α) (x : α) : (insR lt s x).length = s.length + 1 := by
  obtain ⟨q, h1, h2, -⟩ := insR_pos lt s x
  rw [h2]; simp; omega
omit [DecidableEq α] in
theorem insR_mem {s : List α} {x y : α} : y ∈ insR lt s x ↔ y = x ∨ y ∈ s := by
  obtain ⟨q, h1, h2, -⟩ := insR_pos lt s x
  rw [h2]
  conv => rhs; rw [← List.take_append_drop q s]
  simp only [List.mem_append, List.mem_cons]
  constructor
  · rintro (h | h | h)
    · exact .inr (.inl h)
    · exact .inl h
    · exact .inr (.inr h)
  · rintro (h | h | h)
    · exact .inr (.inl h)
    · exact .inl h
    · exact .inr (.inr h)
def isortR (xs : List α) : List α := xs.foldl (insR lt) []
omit [DecidableEq α] in
theorem isortR_take {xs : List α} {k : Nat} {x : α} (h : xs[k]? = some x) : isortR lt (xs.take (k + 1)) = insR lt (isortR lt (xs.take k)) x := by
  unfold isortR
  rw [List.take_add_one, h]; simp
omit [DecidableEq α] in
theorem isortR_all (xs : List α) : ∀ k, k ≤ xs.length → (isortR lt (xs.take k)).length = k ∧ ∀ y, y ∈ isortR lt (xs.take k) ↔ y ∈ xs.take k
  | 0, _ => ⟨by simp [isortR], by simp [isortR]⟩
  | k + 1, hk => by
    obtain ⟨x, hx⟩ : ∃ x, xs[k]? = some x := ⟨xs[k]'(by omega), by simp⟩
    obtain ⟨h1, h2⟩ := isortR_all xs k (by omega)
    rw [isortR_take lt hx]
    refine ⟨by rw [insR_len, h1], fun y => ?_⟩
    rw [insR_mem, h2, List.take_add_one, hx]
    simp only [Option.toList_some, List.mem_append, List.mem_singleton]
    exact or_comm
omit [DecidableEq α] in
theorem isortR_len (xs : List α) : (isortR lt xs).length = xs.length := by
  have := (isortR_all lt xs xs.length (Nat.le_refl _)).1
  rwa [List.take_length] at this
/-- the strict orders. -/
structure StrictOn (ok : α → Prop) : Prop where
  irr : ∀ x, ok x → lt x x = false
  tr : ∀ x y z, ok x → ok y → ok z → lt x y = true → lt y z = true → lt x z = true
  tot : ∀ x y, ok x → ok y → x ≠ y → lt x y = true ∨ lt y x = true
def Strict (s : List α) : Prop := s.Pairwise fun a b => lt a b = true
def Weak (s : List α) : Prop := s.Pairwise fun a b => lt b a = false
variable {lt} {ok : α → Prop}
omit [DecidableEq α] in
theorem StrictOn.anti (h : StrictOn lt ok) {x y : α} (hx : ok x) (hy : ok y) (h1 : lt x y = true) : lt y x = false := by
  cases h2 : lt y x with
  | false => rfl
  | true => have := h.tr x y x hx hy hx h1 h2; rw [h.irr x hx] at this; cases this
/-- from 'not above' on. -/
theorem StrictOn.lw (h : StrictOn lt ok) {x y z : α} (hx : ok x) (hy : ok y) (hz : ok z) (h1 : lt y x = false) (h2 : lt z y = false) : lt z x = false := by
  cases h3 : lt z x with
  | false => rfl
  | true =>
    by_cases e1 : x = y
    · subst e1; rw [h2] at h3; cases h3
    · have a := (h.tot x y hx hy e1).resolve_right (by simp [h1])
      have := h.tr z x y hz hx hy h3 a
      rw [h2] at this; cases this
theorem insR_weak (h : StrictOn lt ok) {s : List α} {x : α} (hx : ok x) (hs : ∀ y ∈ s, ok y) (hw : Weak lt s) : Weak lt (insR lt s x) := by
  obtain ⟨q, h1, h2, h3, h4⟩ := insR_pos lt s x
  rw [h2]
  have hA := List.Pairwise.sublist (List.take_sublist q s) hw
  have hB := List.Pairwise.sublist (List.drop_sublist q s) hw
  refine List.pairwise_append.2 ⟨hA, List.pairwise_cons.2 ⟨fun y hy => h.anti hx (hs y (List.mem_of_mem_drop hy)) (h3 y hy), hB⟩, ?_⟩
  have hax : ∀ a ∈ s.take q, lt x a = false := by
    intro a ha
    have hao := hs a (List.mem_of_mem_take ha)
    obtain ⟨i, hi⟩ := List.getElem?_of_mem ha
    have hiq : i < q ∧ i < s.length := by
      have := (List.getElem?_eq_some_iff.1 hi).1
      simp at this; omega
    rw [List.getElem?_take, if_pos hiq.1] at hi
    obtain ⟨z, hz⟩ : ∃ z, s[q - 1]? = some z := ⟨s[q - 1]'(by omega), by simp⟩
    have hzx := h4 z (by omega) hz
    rcases Nat.lt_or_ge i (q - 1) with hlt | hge
    · have hp := List.pairwise_iff_getElem.1 hw i (q - 1) (by omega) (by omega) hlt
      rw [(List.getElem?_eq_some_iff.1 hi).2, (List.getElem?_eq_some_iff.1 hz).2] at hp
      exact h.lw hao (hs z (List.mem_of_getElem? hz)) hx hp hzx
    · obtain rfl : i = q - 1 := by omega
      rw [hi] at hz; cases hz; exact hzx
  intro a ha b hb
  rcases List.mem_cons.1 hb with rfl | hb
  · exact hax a ha
  · have e := List.take_append_drop q s
    have : Weak lt (s.take q ++ s.drop q) := by rw [e]; exact hw
    exact (List.pairwise_append.1 this).2.2 a ha b hb
omit [DecidableEq α] in
theorem insR_strict (h : StrictOn lt ok) {s : List α} {x : α} (hx : ok x) (hs : ∀ y ∈ s, ok y) (hw : Strict lt s) (hn : x ∉ s) : Strict lt (insR lt s x) := by
  obtain ⟨q, h1, h2, h3, h4⟩ := insR_pos lt s x
  rw [h2]
  have hA := List.Pairwise.sublist (List.take_sublist q s) hw
  have hB := List.Pairwise.sublist (List.drop_sublist q s) hw
  refine List.pairwise_append.2 ⟨hA, List.pairwise_cons.2 ⟨h3, hB⟩, ?_⟩
  intro a ha b hb
  have e := List.take_append_drop q s
  have hall : Strict lt (s.take q ++ s.drop q) := by rw [e]; exact hw
  rcases List.mem_cons.1 hb with rfl | hb
  · have hao := hs a (List.mem_of_mem_take ha)
    have hne : ∀ z ∈ s, b ≠ z := fun z hz e => hn (e ▸ hz)
    obtain ⟨i, hi⟩ := List.getElem?_of_mem ha
    have hiq : i < q ∧ i < s.length := by
      have := (List.getElem?_eq_some_iff.1 hi).1
      simp at this; omega
    rw [List.getElem?_take, if_pos hiq.1] at hi
    obtain ⟨z, hz⟩ : ∃ z, s[q - 1]? = some z := ⟨s[q - 1]'(by omega), by simp⟩
    have hzm := List.mem_of_getElem? hz
    have hzx := h4 z (by omega) hz
    have hzb := (h.tot b z hx (hs z hzm) (hne z hzm)).resolve_left (by simp [hzx])
    rcases Nat.lt_or_ge i (q - 1) with hlt | hge
    · have hp := List.pairwise_iff_getElem.1 hw i (q - 1) (by omega) (by omega) hlt
      rw [(List.getElem?_eq_some_iff.1 hi).2, (List.getElem?_eq_some_iff.1 hz).2] at hp
      exact h.tr a z b hao (hs z hzm) hx hp hzb
    · obtain rfl : i = q - 1 := by omega
      rw [hi] at hz; cases hz; exact hzb
  · exact (List.pairwise_append.1 hall).2.2 a ha b hb
theorem isortR_weak (h : StrictOn lt ok) (xs : List α) (ho : ∀ x ∈ xs, ok x) : ∀ k, k ≤ xs.length → Weak lt (isortR lt (xs.take k))
  | 0, _ => by simp [isortR, Weak]
  | k + 1, hk => by
    obtain ⟨x, hx⟩ : ∃ x, xs[k]? = some x := ⟨xs[k]'(by omega), by simp⟩
    rw [isortR_take lt hx]
    refine insR_weak h (ho x (List.mem_of_getElem? hx)) (fun y hy => ?_) (isortR_weak h xs ho k (by omega))
    rw [(isortR_all lt xs k (by omega)).2] at hy
    exact ho y (List.mem_of_mem_take hy)
/-- equal neighbours left out. -/
def compU (xs : List α) : Nat → List α
  | 0 => []
  | m + 1 => compU xs m ++ (match xs[m]? with | some x => if m ≠ 0 ∧ xs[m - 1]? = some x then [] else [x] | none => [])
theorem compU_len (xs : List α) : ∀ m, (compU xs m).length ≤ m
  | 0 => Nat.le_refl _
  | m + 1 => by
    have := compU_len xs m
    simp only [compU, List.length_append]
    cases xs[m]? with
    | none => simp; omega
    | some x => simp only; split <;> simp <;> omega
theorem compU_at {xs : List α} {m : Nat} {x : α} (h : xs[m]? = some x) : compU xs (m + 1) = compU xs m ++ (if m ≠ 0 ∧ xs[m - 1]? = some x then [] else [x]) := by
  simp only [compU, h]
theorem compU_same {xs : List α} : ∀ {m : Nat}, m ≤ xs.length → (∀ j x, 0 < j → j < m → xs[j]? = some x → ¬ xs[j - 1]? = some x) → compU xs m = xs.take m
  | 0, _, _ => by simp [compU]
  | m + 1, hm, h => by
    obtain ⟨x, hx⟩ : ∃ x, xs[m]? = some x := ⟨xs[m]'(by omega), by simp⟩
    rw [compU_at hx, compU_same (by omega) (fun j x h0 h1 => h j x h0 (by omega)), List.take_add_one, hx]
    by_cases h0 : m = 0
    · subst h0; simp
    · rw [if_neg (fun hc => h m x (by omega) (by omega) hx hc.2)]; rfl
theorem compU_mem {xs : List α} : ∀ {m : Nat}, m ≤ xs.length → ∀ y, y ∈ compU xs m ↔ y ∈ xs.take m
  | 0, _, y => by simp [compU]
  | m + 1, hm, y => by
    obtain ⟨x, hx⟩ : ∃ x, xs[m]? = some x := ⟨xs[m]'(by omega), by simp⟩
    rw [compU_at hx, List.take_add_one, hx, List.mem_append, compU_mem (by omega), List.mem_append]
    simp only [Option.toList_some, List.mem_singleton]
    split
    · rename_i hc
      simp only [List.not_mem_nil, or_false]
      constructor
      · exact .inl
      · rintro (h | rfl)
        · exact h
        · refine List.mem_of_getElem? (i := m - 1) ?_
          rw [List.getElem?_take, if_pos (by omega)]
          exact hc.2
    · simp
theorem compU_strict (h : StrictOn lt ok) {xs : List α} (ho : ∀ x ∈ xs, ok x) (hw : Weak lt xs) : ∀ m, m ≤ xs.length → Strict lt (compU xs m)
  | 0, _ => by simp [compU, Strict]
  | m + 1, hm => by
    obtain ⟨x, hx⟩ : ∃ x, xs[m]? = some x := ⟨xs[m]'(by omega), by simp⟩
    have ih := compU_strict h ho hw m (by omega)
    rw [compU_at hx]
    split
    · rw [List.append_nil]; exact ih
    · rename_i hc
      refine List.pairwise_append.2 ⟨ih, by simp, fun a ha b hb => ?_⟩
      rw [List.mem_singleton] at hb
      subst hb
      rw [compU_mem (by omega)] at ha
      obtain ⟨i, hi⟩ := List.getElem?_of_mem ha
      have him : i < m := by
        have := (List.getElem?_eq_some_iff.1 hi).1
        simp at this; omega
      rw [List.getElem?_take, if_pos him] at hi
      have hao := ho a (List.mem_of_getElem? hi)
      have hxo := ho b (List.mem_of_getElem? hx)
      obtain ⟨z, hz⟩ : ∃ z, xs[m - 1]? = some z := ⟨xs[m - 1]'(by omega), by simp⟩
      have hzo := ho z (List.mem_of_getElem? hz)
      have hzx : z ≠ b := fun e => hc ⟨by omega, by rw [hz, e]⟩
      have hwk : ∀ (i j : Nat) u v, i < j → xs[i]? = some u → xs[j]? = some v → lt v u = false := by
        intro i j u v hij hu hv
        have := List.pairwise_iff_getElem.1 hw i j (List.getElem?_eq_some_iff.1 hu).1 (List.getElem?_eq_some_iff.1 hv).1 hij
        rw [(List.getElem?_eq_some_iff.1 hu).2, (List.getElem?_eq_some_iff.1 hv).2] at this
        exact this
      have hzb := (h.tot z b hzo hxo hzx).resolve_right (by rw [hwk (m - 1) m z b (by omega) hz hx]; simp)
      rcases Nat.lt_or_ge i (m - 1) with hlt | hge
      · by_cases e : a = z
        · rw [e]; exact hzb
        · have haz := (h.tot a z hao hzo e).resolve_right (by rw [hwk i (m - 1) a z hlt hi hz]; simp)
          exact h.tr a z b hao hzo hxo haz hzb
      · obtain rfl : i = m - 1 := by omega
        rw [hi] at hz; cases hz; exact hzb
omit [DecidableEq α] in
/-- what a list in strict order is, is told by its members. -/
theorem strict_eq (h : StrictOn lt ok) : ∀ {s t : List α}, (∀ x ∈ s, ok x) → (∀ x ∈ t, ok x) → Strict lt s → Strict lt t → (∀ y, y ∈ s ↔ y ∈ t) → s = t
  | [], [], _, _, _, _, _ => rfl
  | [], b :: t, _, _, _, _, hm => by have := (hm b).2 (by simp); simp at this
  | a :: s, [], _, _, _, _, hm => by have := (hm a).1 (by simp); simp at this
  | a :: s, b :: t, hs, ht, h1, h2, hm => by
    have p1 := List.pairwise_cons.1 h1
    have p2 := List.pairwise_cons.1 h2
    have hao := hs a (by simp)
    have hbo := ht b (by simp)
    have hab : a = b := by
      rcases List.mem_cons.1 ((hm a).1 (by simp)) with e | ha
      · exact e
      · rcases List.mem_cons.1 ((hm b).2 (by simp)) with e | hb
        · exact e.symm
        · have u := p1.1 b hb
          have v := p2.1 a ha
          rw [h.anti hao hbo u] at v; cases v
    subst hab
    have hna : a ∉ s := fun hx => by have := p1.1 a hx; rw [h.irr a hao] at this; cases this
    have hnb : a ∉ t := fun hx => by have := p2.1 a hx; rw [h.irr a hao] at this; cases this
    refine congrArg (a :: ·) (strict_eq h (fun x hx => hs x (by simp [hx])) (fun x hx => ht x (by simp [hx])) p1.2 p2.2 fun y => ?_)
    constructor
    · intro hy
      rcases List.mem_cons.1 ((hm y).1 (by simp [hy])) with e | h'
      · exact absurd (e ▸ hy) hna
      · exact h'
    · intro hy
      rcases List.mem_cons.1 ((hm y).2 (by simp [hy])) with e | h'
      · exact absurd (e ▸ hy) hnb
      · exact h'
/-- insertion of what is new. -/
def insN (lt : α → α → Bool) (s : List α) (x : α) : List α := if x ∈ s then s else insR lt s x
def namesN (lt : α → α → Bool) (xs : List α) : List α := xs.foldl (insN lt) []
theorem namesN_take {xs : List α} {k : Nat} {x : α} (h : xs[k]? = some x) : namesN lt (xs.take (k + 1)) = insN lt (namesN lt (xs.take k)) x := by
  unfold namesN
  rw [List.take_add_one, h]; simp
theorem namesN_all (h : StrictOn lt ok) (xs : List α) (ho : ∀ x ∈ xs, ok x) : ∀ k, k ≤ xs.length → Strict lt (namesN lt (xs.take k)) ∧ (∀ y, y ∈ namesN lt (xs.take k) ↔ y ∈ xs.take k) ∧ (namesN lt (xs.take k)).length ≤ k
  | 0, _ => ⟨by simp [namesN, Strict], by simp [namesN], by simp [namesN]⟩
  | k + 1, hk => by
    obtain ⟨x, hx⟩ : ∃ x, xs[k]? = some x := ⟨xs[k]'(by omega), by simp⟩
    obtain ⟨h1, h2, h3⟩ := namesN_all h xs ho k (by omega)
    rw [namesN_take hx, List.take_add_one, hx]
    unfold insN
    have hok : ∀ y ∈ namesN lt (xs.take k), ok y := fun y hy => ho y (List.mem_of_mem_take ((h2 y).1 hy))
    split
    · rename_i hin
      refine ⟨h1, fun y => ?_, by omega⟩
      rw [h2, List.mem_append]
      simp only [Option.toList_some, List.mem_singleton]
      constructor
      · exact .inl
      · rintro (h' | rfl)
        · exact h'
        · exact (h2 y).1 hin
    · rename_i hin
      refine ⟨insR_strict h (ho x (List.mem_of_getElem? hx)) hok h1 hin, fun y => ?_, by rw [insR_len]; omega⟩
      rw [insR_mem, h2, List.mem_append]
      simp only [Option.toList_some, List.mem_singleton]
      exact or_comm
theorem names_eq (h : StrictOn lt ok) (xs : List α) (ho : ∀ x ∈ xs, ok x) : compU (isortR lt xs) xs.length = namesN lt xs := by
  have hl := isortR_len lt xs
  have hm := (isortR_all lt xs xs.length (Nat.le_refl _)).2
  have hw := isortR_weak h xs ho xs.length (Nat.le_refl _)
  obtain ⟨n1, n2, -⟩ := namesN_all h xs ho xs.length (Nat.le_refl _)
  rw [List.take_length] at hm hw n1 n2
  have hoi : ∀ x ∈ isortR lt xs, ok x := fun x hx => ho x ((hm x).1 hx)
  have hc := fun y => compU_mem (xs := isortR lt xs) (m := xs.length) (by omega) y
  rw [List.take_of_length_le (by omega)] at hc
  refine strict_eq h (fun x hx => hoi x ((hc x).1 hx)) (fun x hx => ho x ((n2 x).1 hx)) (compU_strict h hoi hw _ (by omega)) n1 fun y => ?_
  rw [hc, hm, n2]
end

end Go.Proofs.YtohnoccmaeegdaaGreatDoor

/- What walls, a frame taken down and the busiest day tell. -/
import Derived.Test.YthgeeocmhdpgiaaDoorRows
import Derived.Test.YthgeeocmhdpgiaaDoorFramesP
import Derived.Test.YthgeeocmhdpgiaaDoorFrames5
import Derived.Test.YthgeeocmhdpgiaaDoorFrames7
import Derived.Test.YthgeeocmhdpgiaaDoorFrames8
namespace Go.Proofs.YthgeeocmhdpgiaaDoor
open Go Go.X Go.Proofs Go.ChangeShapes Go.WideShapes Go.ChangeAt Go.RowKit
open Go.ChangeMaps (open_string shut_string)
set_option maxHeartbeats 1000000
set_option maxRecDepth 20000
set_option linter.unusedVariables false
set_option linter.unusedSimpArgs false
theorem mem_wallsUp (xs : List Frm) (wide f u t : Int) : ∀ k : Nat, t ∈ wallsUp xs wide f u k ↔ 1 ≤ t ∧ t ≤ k ∧ wide ≤ roomF xs t f u
  | 0 => by simp [wallsUp]; omega
  | k + 1 => by
    simp only [wallsUp, List.mem_append, mem_wallsUp xs wide f u t k]
    split
    · rename_i hc
      simp only [List.mem_singleton]
      constructor
      · rintro (h | rfl)
        · exact ⟨h.1, by omega, h.2.2⟩
        · exact ⟨by omega, by omega, hc⟩
      · intro h
        by_cases ht : t = (k : Int) + 1
        · exact .inr ht
        · exact .inl ⟨h.1, by omega, h.2.2⟩
    · rename_i hc
      simp only [List.not_mem_nil, or_false]
      constructor
      · intro h; exact ⟨h.1, by omega, h.2.2⟩
      · intro h
        refine ⟨h.1, ?_, h.2.2⟩
        have : t ≠ (k : Int) + 1 := fun e => hc (by rw [← e]; exact h.2.2)
        omega
theorem walls_law {xs : List Frm} {wide f u : Int} (h : (wallsP xs wide f u).2 = true) (t : Int) (h1 : 1 ≤ t) (h4 : t ≤ 4) : (roomP xs t f u).2 = true ∧ (decide (t ∈ (wallsP xs wide f u).1) = decide (wide ≤ (roomP xs t f u).1)) := by
  unfold wallsP at h ⊢
  split at h
  · rename_i hc
    unfold wallsOk at hc
    simp only [Bool.and_eq_true] at hc
    have hr : roomP xs t f u = (roomF xs t f u, true) := by
      unfold roomP
      rw [if_pos]
      simp only [Bool.and_eq_true]
      exact ⟨⟨hc.1.1, by simp [inB]; omega⟩, hc.2⟩
    rw [hr]
    refine ⟨rfl, ?_⟩
    rw [if_pos (by unfold wallsOk; simp only [Bool.and_eq_true]; exact hc)]
    rw [decide_eq_decide]
    rw [mem_wallsUp]
    simp only
    constructor
    · intro h; exact h.2.2
    · intro h; exact ⟨h1, by omega, h⟩
  · cases h
def cW (w d : Int) (x : Frm) : Int := if onW w d x then x.fWide else 0
theorem wS_set (w d : Int) {y x : Frm} : ∀ {xs : List Frm} {k : Nat}, xs[k]? = some x → wS w d (xs.set k y) = wS w d xs - cW w d x + cW w d y
  | [], k, h => by simp at h
  | z :: r, 0, h => by
    simp only [List.getElem?_cons_zero, Option.some.injEq] at h
    subst h
    simp only [List.set_cons_zero, wS, cW]; omega
  | z :: r, k + 1, h => by
    have := wS_set w d (y := y) (xs := r) (k := k) (by simpa using h)
    simp only [List.set_cons_succ, wS, this]; omega
theorem areF_rise {xs : List Frm} (h : areF xs = true) : ∀ (k j : Nat) x y, j < k → xs[j]? = some x → xs[k]? = some y → x.fId < y.fId := by
  have step : ∀ (k : Nat) x y, xs[k]? = some x → xs[k + 1]? = some y → x.fId < y.fId := by
    intro k x y hx hy
    simp only [areF, fUpto, Bool.and_eq_true, List.all_eq_true, List.mem_range] at h
    have hk := (List.getElem?_eq_some_iff.1 hy).1
    have := h.1.1 (k + 1) hk
    unfold fAt at this
    rw [hy] at this
    simp only [Nat.add_sub_cancel, hx] at this
    simpa using (Bool.and_eq_true_iff.1 this).2
  intro k
  induction k with
  | zero => intro j x y hj; omega
  | succ k ih =>
    intro j x y hj hx hy
    have hk := (List.getElem?_eq_some_iff.1 hy).1
    obtain ⟨z, hz⟩ : ∃ z, xs[k]? = some z := ⟨xs[k]'(by omega), by simp⟩
    have h1 := step k z y hz hy
    rcases Nat.lt_or_ge j k with hjk | hjk
    · have := ih j x z hjk hx hz; omega
    · obtain rfl : j = k := by omega
      rw [hx] at hz; cases hz; exact h1
theorem mem_hangUp {xs : List Frm} (h : ∀ x ∈ xs, 1 ≤ x.fWall ∧ x.fWall ≤ 4) (d i : Int) : i ∈ hangUp xs d 4 ↔ ∃ z ∈ xs, z.fId = i ∧ onDay d z = true := by
  have e4 : hangUp xs d 4 = [] ++ hangW d 1 xs ++ hangW d 2 xs ++ hangW d 3 xs ++ hangW d 4 xs := rfl
  rw [e4]
  simp only [List.nil_append, List.mem_append, hangW, List.mem_map, List.mem_filter, Bool.and_eq_true, decide_eq_true_eq]
  constructor
  · rintro (((⟨z, ⟨h1, h2, h3⟩, h4⟩ | ⟨z, ⟨h1, h2, h3⟩, h4⟩) | ⟨z, ⟨h1, h2, h3⟩, h4⟩) | ⟨z, ⟨h1, h2, h3⟩, h4⟩) <;> exact ⟨z, h1, h4, h3⟩
  · rintro ⟨z, h1, h2, h3⟩
    have hw := h z h1
    have : z.fWall = 1 ∨ z.fWall = 2 ∨ z.fWall = 3 ∨ z.fWall = 4 := by omega
    rcases this with hq | hq | hq | hq
    · exact .inl (.inl (.inl ⟨z, ⟨h1, hq, h3⟩, h2⟩))
    · exact .inl (.inl (.inr ⟨z, ⟨h1, hq, h3⟩, h2⟩))
    · exact .inl (.inr ⟨z, ⟨h1, hq, h3⟩, h2⟩)
    · exact .inr ⟨z, ⟨h1, hq, h3⟩, h2⟩
theorem areF_set {xs : List Frm} (h : areF xs = true) {k : Nat} {x : Frm} (hx : xs[k]? = some x) {v : Int} (h1 : x.fFrom ≤ v) (h2 : v ≤ x.fUntil) : areF (xs.set k (setU x v)) = true := by
  have hk := (List.getElem?_eq_some_iff.1 hx).1
  have hl := areF_len h
  have hw := areF_widths h
  have hok := okF_spec (areF_at h hx)
  have hy : ∀ (j : Nat) y, (xs.set k (setU x v))[j]? = some y → ∃ z, xs[j]? = some z ∧ y.fId = z.fId ∧ y.fWide = z.fWide ∧ y.fWall = z.fWall ∧ y.fFrom = z.fFrom ∧ okF y = true := by
    intro j y hj
    rw [List.getElem?_set] at hj
    split at hj
    · rename_i e
      subst e
      cases hj
      refine ⟨x, hx, rfl, rfl, rfl, rfl, ?_⟩
      simp only [okF, setU, Bool.and_eq_true, decide_eq_true_eq]
      exact ⟨⟨⟨⟨⟨inB_iff.2 hok.1, inB_iff.2 hok.2.1⟩, inB_iff.2 hok.2.2.1⟩, inB_iff.2 hok.2.2.2.1⟩, inB_iff.2 ⟨by omega, by omega⟩⟩, decide_eq_true h1⟩
    · exact ⟨y, hj, rfl, rfl, rfl, rfl, areF_at h hj⟩
  have hz : ∀ (j : Nat) z, xs[j]? = some z → ∃ y, (xs.set k (setU x v))[j]? = some y := by
    intro j z hz
    have := (List.getElem?_eq_some_iff.1 hz).1
    exact ⟨_, List.getElem?_eq_getElem (by simp; omega)⟩
  have hww : widthsOk (xs.set k (setU x v)) := by
    intro y hym
    obtain ⟨j, hj⟩ := List.getElem?_of_mem hym
    obtain ⟨z, h3, -, h4, -⟩ := hy j y hj
    rw [h4]; exact hw z (List.mem_of_getElem? h3)
  have hS : ∀ w d, wS w d (xs.set k (setU x v)) ≤ wS w d xs := by
    intro w d
    rw [wS_set w d hx]
    have hwx := hw x (List.mem_of_getElem? hx)
    unfold cW
    by_cases hc : onW w d (setU x v) = true
    · have hc2 := onW_iff.1 hc
      simp only [setU] at hc2
      rw [if_pos hc, if_pos (onW_iff.2 ⟨hc2.1, hc2.2.1, by omega⟩)]
      show wS w d xs - x.fWide + x.fWide ≤ _
      omega
    · rw [if_neg hc]
      split <;> omega
  have hh := areF_w h
  unfold areF fUpto wUpto
  rw [List.length_set, decide_eq_true hl]
  simp only [Bool.and_eq_true, List.all_eq_true, List.mem_range, and_true]
  refine ⟨fun j hj => ?_, fun j hj => ?_⟩
  · obtain ⟨y, hyj⟩ := hz j xs[j] (by simp)
    obtain ⟨z, e1, e2, e3, e4, e5, e6⟩ := hy j y hyj
    unfold fAt
    rw [hyj]
    simp only [e6, Bool.true_and]
    rcases Nat.eq_zero_or_pos j with h0 | h0
    · simp [h0]
    · obtain ⟨y', hyj'⟩ := hz (j - 1) (xs[j - 1]'(by omega)) (by simp)
      obtain ⟨z', d1, d2, -⟩ := hy (j - 1) y' hyj'
      rw [hyj']
      have := areF_rise h j (j - 1) z' z (by omega) d1 e1
      simp only [Bool.or_eq_true, decide_eq_true_eq]
      right; omega
  · obtain ⟨y, hyj⟩ := hz j xs[j] (by simp)
    obtain ⟨z, e1, e2, e3, e4, e5, e6⟩ := hy j y hyj
    unfold wAt
    rw [hyj]
    simp only [decide_eq_true_eq]
    rw [wOn_eq hww (by simp; omega), e4, e5]
    have := hh z (List.mem_of_getElem? e1)
    have := hS z.fWall z.fFrom
    omega
theorem take_law {xs : List Frm} {id day : Int} (h : (takeP xs id day).2 = true) :
    (hangingP (takeP xs id day).1 day).2 = true ∧ (hangingP (takeP xs id day).1 (day + 1)).2 = true ∧ decide (id ∈ (hangingP (takeP xs id day).1 day).1) = true ∧ decide (id ∈ (hangingP (takeP xs id day).1 (day + 1)).1) = false ∧ (0 ≤ day ∧ day ≤ 4000) ∧ xs.length ≤ 12 := by
  cases ha : areF xs with
  | false => rw [takeP_bad (.inl ha)] at h; cases h
  | true =>
    rcases idAt_spec xs id with hk | ⟨k, x, hk, hkl, hx, hid⟩
    · rw [takeP_bad (.inr hk)] at h; cases h
    · rw [takeP_good ha hk hx] at h ⊢
      split at h
      · rename_i hc
        have hd := inB_iff.1 hc
        have hok := okF_spec (areF_at ha hx)
        have hs := areF_set ha hx hd.1 (by omega)
        rw [if_pos hc]
        have wl : ∀ z ∈ xs.set k (setU x day), 1 ≤ z.fWall ∧ z.fWall ≤ 4 := fun z hz => by have := okF_spec (areF_ok hs z hz); omega
        have q1 : hangingP (xs.set k (setU x day)) day = (hangUp (xs.set k (setU x day)) day 4, true) := by unfold hangingP; rw [if_pos (by simp [hs, inB]; omega)]
        have q2 : hangingP (xs.set k (setU x day)) (day + 1) = (hangUp (xs.set k (setU x day)) (day + 1) 4, true) := by unfold hangingP; rw [if_pos (by simp [hs, inB]; omega)]
        simp only [q1, q2]
        have hks : (xs.set k (setU x day))[k]? = some (setU x day) := by rw [List.getElem?_set, if_pos rfl, if_pos hkl]
        refine ⟨trivial, trivial, ?_, ?_, by omega, areF_len ha⟩
        · rw [decide_eq_true_eq, mem_hangUp wl]
          refine ⟨setU x day, List.mem_of_getElem? hks, hid, ?_⟩
          show inB day x.fFrom day = true
          exact inB_iff.2 ⟨hd.1, Int.le_refl _⟩
        · rw [decide_eq_false_iff_not, mem_hangUp wl]
          rintro ⟨z, hz, hzi, hzd⟩
          obtain ⟨j, hj⟩ := List.getElem?_of_mem hz
          have hjk : j = k := by
            rcases Nat.lt_trichotomy j k with h | h | h
            · have := areF_rise hs k j z (setU x day) h hj hks
              have : (setU x day).fId = id := hid
              omega
            · exact h
            · have := areF_rise hs j k (setU x day) z h hks hj
              have : (setU x day).fId = id := hid
              omega
          subst hjk
          rw [hks] at hj
          cases hj
          have h9 := inB_iff.1 (show inB (day + 1) x.fFrom day = true from hzd)
          omega
      · cases h
theorem busy_law {xs : List Frm} (h : (busyP xs).2.2 = true) : xs.length ≤ 12 ∧ ∀ x ∈ xs, (hangingP xs x.fUntil).2 = true ∧ ((hangingP xs x.fUntil).1.length : Int) ≤ (busyP xs).2.1 := by
  unfold busyP at h ⊢
  split at h
  · rename_i hc
    rw [if_pos hc]
    simp only [Bool.and_eq_true, decide_eq_true_eq] at hc
    refine ⟨areF_len hc.1, fun x hx => ?_⟩
    have hok := okF_spec (areF_ok hc.1 x hx)
    have q1 : hangingP xs x.fUntil = (hangUp xs x.fUntil 4, true) := by unfold hangingP; rw [if_pos (by simp [hc.1, inB]; omega)]
    rw [q1]
    refine ⟨rfl, ?_⟩
    simp only
    rw [hangUp_cnt _ (fun z hz => by have := okF_spec (areF_ok hc.1 z hz); omega)]
    have := (bUp_inv xs 4001).1 x.fUntil.toNat (by omega)
    rw [Int.toNat_of_nonneg (by omega)] at this
    exact this
  · cases h
theorem firstR_spec (p : Int → Bool) (days : Int) : ∀ (fuel : Nat) (day : Int), (firstR p days fuel day).2 = true →
    day ≤ (firstR p days fuel day).1 ∧ (firstR p days fuel day).1 + days - 1 ≤ 4000 ∧ p (firstR p days fuel day).1 = true ∧ (day < (firstR p days fuel day).1 → p ((firstR p days fuel day).1 - 1) = false)
  | 0, day, h => by cases h
  | fuel + 1, day, h => by
    by_cases h1 : day + days - 1 ≤ 4000
    · by_cases h2 : p day = true
      · rw [firstR_hit h1 h2]
        exact ⟨Int.le_refl _, h1, h2, fun h => by simp only at h; omega⟩
      · rw [firstR_next h1 h2] at h ⊢
        obtain ⟨k1, k2, k3, k4⟩ := firstR_spec p days fuel (day + 1) h
        refine ⟨by omega, k2, k3, fun _ => ?_⟩
        rcases Int.lt_or_le (day + 1) (firstR p days fuel (day + 1)).1 with hl | hl
        · exact k4 hl
        · have : (firstR p days fuel (day + 1)).1 = day + 1 := by omega
          rw [this]
          have : day + 1 - 1 = day := by omega
          rw [this]
          simpa using h2
    · rw [firstR_stop h1] at h; cases h
theorem first_law {xs : List Frm} {wide wall f days : Int} (h : (firstP xs wide wall f days).2 = true) :
    ((roomP xs wall (firstP xs wide wall f days).1 ((firstP xs wide wall f days).1 + days - 1)).2 = true ∧ wide ≤ (roomP xs wall (firstP xs wide wall f days).1 ((firstP xs wide wall f days).1 + days - 1)).1 ∧ f ≤ (firstP xs wide wall f days).1 ∧
    (f < (firstP xs wide wall f days).1 → (roomP xs wall ((firstP xs wide wall f days).1 - 1) ((firstP xs wide wall f days).1 + days - 2)).2 = true ∧ (roomP xs wall ((firstP xs wide wall f days).1 - 1) ((firstP xs wide wall f days).1 + days - 2)).1 < wide)) ∧
    (0 ≤ (firstP xs wide wall f days).1 ∧ (firstP xs wide wall f days).1 ≤ 4000) ∧ (1 ≤ days ∧ days ≤ 400) := by
  unfold firstP at h ⊢
  split at h
  · rename_i hc
    rw [if_pos hc]
    unfold firstOk at hc
    simp only [Bool.and_eq_true] at hc
    obtain ⟨⟨⟨⟨c1, c2⟩, c3⟩, c4⟩, c5⟩ := hc
    have c4' := inB_iff.1 c4
    have c5' := inB_iff.1 c5
    obtain ⟨k1, k2, k3, k4⟩ := firstR_spec _ _ _ _ h
    generalize hg : firstR (roomy xs wide wall days) days 4002 f = g at *
    have room : ∀ d, 0 ≤ d → d + days - 1 ≤ 4000 → roomP xs wall d (d + days - 1) = (roomF xs wall d (d + days - 1), true) := by
      intro d h0 h1
      unfold roomP
      rw [if_pos]
      simp only [Bool.and_eq_true, decide_eq_true_eq]
      exact ⟨⟨c1, c3⟩, ⟨inB_iff.2 ⟨by omega, by omega⟩, inB_iff.2 ⟨by omega, by omega⟩⟩, by omega⟩
    have r1 := room g.1 (by omega) k2
    rw [r1]
    refine ⟨⟨rfl, ?_, k1, fun hl => ?_⟩, by omega, by omega⟩
    · simpa [roomy] using k3
    · have r2 := room (g.1 - 1) (by omega) (by omega)
      have e : g.1 - 1 + days - 1 = g.1 + days - 2 := by omega
      rw [e] at r2
      rw [r2]
      refine ⟨rfl, ?_⟩
      have := k4 hl
      unfold roomy at this
      rw [e] at this
      simp at this
      simp only; omega
  · cases h

end Go.Proofs.YthgeeocmhdpgiaaDoor

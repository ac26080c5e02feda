/- The minutes of a reader. -/
import Derived.Test.YtlakfbbnhedcoaaRows
import Derived.Test.YtlakfbbnhedcoaaVisits
namespace Go.Proofs.Ytlakfbbnhedcoaa
open Go Go.X Go.Proofs Go.ChangeShapes Go.WideShapes Go.ChangeAt Go.RowKit
open Go.ChangeMaps (open_string shut_string)
set_option maxHeartbeats 1000000
set_option maxRecDepth 20000
set_option linter.unusedVariables false
set_option linter.unusedSimpArgs false
theorem areV_len {xs : List Vis} (h : areV xs = true) : xs.length ≤ 15 := by
  simp [areV] at h; exact h.2
theorem areV_at {xs : List Vis} (h : areV xs = true) {k : Nat} {x : Vis} (hx : xs[k]? = some x) : okV x = true := by
  simp only [areV, vUpto, Bool.and_eq_true, List.all_eq_true, List.mem_range] at h
  have hk : k < xs.length := by
    rcases Nat.lt_or_ge k xs.length with h | h
    · exact h
    · rw [List.getElem?_eq_none h] at hx; cases hx
  have := h.1 k hk
  simp [vAt, hx] at this
  exact this.1.1
theorem okV_spec {x : Vis} (h : okV x = true) : (1 ≤ x.fReader ∧ x.fReader ≤ 999) ∧ (1 ≤ x.fSeat ∧ x.fSeat ≤ 6) ∧ (480 ≤ x.fFrom ∧ x.fUntil ≤ 1200 ∧ x.fFrom < x.fUntil) := by
  simp [okV, timeB, inB] at h
  omega
def minsOf (r : Int) : List Vis → Int
  | [] => 0
  | x :: t => (if x.fReader = r then x.fUntil - x.fFrom else 0) + minsOf r t
theorem minsOf_append (r : Int) (xs ys : List Vis) : minsOf r (xs ++ ys) = minsOf r xs + minsOf r ys := by
  induction xs with
  | nil => simp [minsOf]
  | cons x t ih => simp [minsOf, ih]; omega
theorem minsOf_take (r : Int) {xs : List Vis} {k : Nat} {x : Vis} (h : xs[k]? = some x) : minsOf r (xs.take (k + 1)) = minsOf r (xs.take k) + (if x.fReader = r then x.fUntil - x.fFrom else 0) := by
  rw [List.take_add_one, h, minsOf_append]; simp [minsOf]
theorem minsOf_bnd (r : Int) {xs : List Vis} (h : ∀ x ∈ xs, okV x = true) : 0 ≤ minsOf r xs ∧ minsOf r xs ≤ 720 * xs.length := by
  induction xs with
  | nil => simp [minsOf]
  | cons x t ih =>
    have := ih (fun y hy => h y (by simp [hy]))
    have h0 := okV_spec (h x (by simp))
    simp only [minsOf, List.length_cons]
    split <;> omega
theorem areV_ok {xs : List Vis} (h : areV xs = true) : ∀ x ∈ xs, okV x = true := by
  intro x hx
  obtain ⟨k, hk⟩ := List.getElem?_of_mem hx
  exact areV_at h hk
theorem minsOf_le (r : Int) {xs : List Vis} (h : areV xs = true) (k : Nat) : 0 ≤ minsOf r (xs.take k) ∧ minsOf r (xs.take k) ≤ 10800 := by
  have := minsOf_bnd r (xs := xs.take k) (fun x hx => areV_ok h x (List.mem_of_mem_take hx))
  have hl : (xs.take k).length ≤ 15 := by simp; have := areV_len h; omega
  omega
def minsP (xs : List Vis) (r : Int) : Int × Bool := if areV xs && inB r 1 999 then (minsOf r xs, true) else (0, false)
theorem SeatMinutes_c (a : Option Addr) (n c : Nat) (xs : List Vis) (r : Int) (w : World) (hr : Row w a 4 (xs.map encVis)) (hn : xs.length = n) (hm : n ≤ 4611686018427387904) (hc : n ≤ c ∧ c < 9223372036854775808) :
    Calls Try.prog 14 #[.slice a n c, .int .i64 r] w fun e w' => e = .returned (.tuple #[.int .i64 (minsP xs r).1, .bool (minsP xs r).2]) ∧ E0 w w' := by
  refine enterK Non 36 Try.func14 rfl rfl rfl fun K hK => ?_
  by_cases ho : areV xs = true ∧ inB r 1 999 = true
  · repeat (any_goals (
      conv => whnf
      first
      | ((with_reducible refine callF (g := 11) ?_ ?_); kernel_rfl; refine ⟨_, AreVisits_c _ _ _ xs _ (by repeat (first | assumption | refine Row.e0 ?_ (by assumption))) hn hm hc, ?_⟩; intro w4 e4; have z4 := cutLe e4)
      | ((with_reducible refine callF (g := 33) ?_ ?_); kernel_rfl; refine ⟨_, isId_c _ _, ?_⟩; intro w4 e4; have z4 := cutLe e4)
      | ((exfalso; simp_all; done))
      | ((intro hx; exfalso; simp_all; done))
      | ((with_reducible refine BIF.dec ?_ ?_) <;> intro _)
      | ((with_reducible refine BIF.s ?_ ?_) <;> intro _)
      | (with_reducible refine NEXTK.normal ?_)
      | (with_reducible refine NEXTK.ret ?_)
      | (with_reducible refine NEXTK.exit ?_)
      | (with_reducible refine SEQ.plain ?_)
      | (with_reducible refine hK _ _ ?_)
      | ((with_reducible refine AR.ok ?_ ?_); exact ⟨by first | omega | (dsimp only; omega), by first | omega | (dsimp only; omega)⟩)
      | (with_reducible refine AR.wr ?_)
      | ((with_reducible intro w3 e3); try have z3 := cutLe e3)
      | ((with_reducible intro h3); have h4 := Nat.le_of_lt h3; clear h4)))
    all_goals
      refine LOOP.mk (Nat × Int) (fun g => [(19, .v (.int .i64 g.1)), (6, .v (.int .i64 g.2))]) (fun g _ => g.1 ≤ n ∧ g.2 = minsOf r (xs.take g.1)) (fun g => n - g.1) (0, 0) rfl ⟨rfl, rfl, trivial⟩ ⟨Nat.zero_le _, by simp [minsOf]⟩ ?_
      rintro ⟨j, s⟩ wr - ⟨hj, hs'⟩
      simp only at hj hs'
      conv => whnf
      repeat (first | ((with_reducible refine NEXTK.normal ?_); conv => whnf) | ((with_reducible refine NEXTK.exit ?_); conv => whnf) | ((with_reducible refine NEXTK.ret ?_); conv => whnf) | ((with_reducible refine SEQ.plain ?_); conv => whnf) | ((with_reducible refine AR.ok ?_ ?_); exact ⟨by omega, by omega⟩; conv => whnf))
      refine BIF.dec (fun hlt => ?_) (fun hlt => ?_)
      · have hlt' : j < xs.length := by omega
        have his := hr.isSome (by simp; omega)
        have hb := minsOf_le r ho.1 j
        obtain ⟨x, hx⟩ : ∃ x, xs[j]? = some x := ⟨xs[j]'(by omega), by simp⟩
        have hx2 := okV_spec (areV_at ho.1 hx)
        have ht := minsOf_take r hx
        repeat (any_goals (
          conv => whnf
          first
          | ((with_reducible refine OBL.mk ?_ (fun _ => ?_)); exact ⟨by omega, by omega, his⟩)
          | ((with_reducible refine ELD.at (j) hr ?_ ?_ ?_ (fun x' hx' => ?_)); exact mAddr_Non _; (first | rfl | omega); exact hlt'; obtain rfl : x = x' := by (rw [hx] at hx'; exact Option.some.inj hx'))
          | ((with_reducible refine BIF.dec ?_ ?_) <;> intro _)
          | ((with_reducible refine BIF.s ?_ ?_) <;> intro _)
          | (with_reducible refine NEXTK.normal ?_)
          | (with_reducible refine NEXTK.ret ?_)
          | (with_reducible refine NEXTK.exit ?_)
          | (with_reducible refine SEQ.plain ?_)
          | (with_reducible refine hK _ _ ?_)
          | ((with_reducible refine AR.ok ?_ ?_); exact ⟨by first | omega | (dsimp only; omega), by first | omega | (dsimp only; omega)⟩)
          | (with_reducible refine AR.wr ?_)
          | ((with_reducible intro w3 e3); try have z3 := cutLe e3)
          | ((with_reducible intro h3); have h4 := Nat.le_of_lt h3; clear h4)))
        all_goals
          refine ⟨(j + 1, _), rfl, ⟨rfl, rfl, trivial⟩, rfl, rfl, ⟨by simp; omega, ?_⟩, by simp; omega⟩
          simp only [ht, hs']
          simp_all
      · have hkj : j = xs.length := by omega
        repeat (any_goals (
          conv => whnf
          first
          | ((with_reducible refine BIF.dec ?_ ?_) <;> intro _)
          | ((with_reducible refine BIF.s ?_ ?_) <;> intro _)
          | (with_reducible refine NEXTK.normal ?_)
          | (with_reducible refine NEXTK.ret ?_)
          | (with_reducible refine NEXTK.exit ?_)
          | (with_reducible refine SEQ.plain ?_)
          | (with_reducible refine hK _ _ ?_)
          | ((with_reducible refine AR.ok ?_ ?_); exact ⟨by first | omega | (dsimp only; omega), by first | omega | (dsimp only; omega)⟩)
          | (with_reducible refine AR.wr ?_)
          | ((with_reducible intro w3 e3); try have z3 := cutLe e3)
          | ((with_reducible intro h3); have h4 := Nat.le_of_lt h3; clear h4)))
        intro hx
        refine ⟨?_, hx⟩
        rw [hkj, List.take_length] at hs'
        simp [minsP, ho.1, ho.2, resV, hs']
  · have e : minsP xs r = (0, false) := by
      unfold minsP
      rw [if_neg (by simpa using ho)]
    repeat (any_goals (
      conv => whnf
      first
      | ((with_reducible refine callF (g := 11) ?_ ?_); kernel_rfl; refine ⟨_, AreVisits_c _ _ _ xs _ (by repeat (first | assumption | refine Row.e0 ?_ (by assumption))) hn hm hc, ?_⟩; intro w4 e4; have z4 := cutLe e4)
      | ((with_reducible refine callF (g := 33) ?_ ?_); kernel_rfl; refine ⟨_, isId_c _ _, ?_⟩; intro w4 e4; have z4 := cutLe e4)
      | ((exfalso; simp_all; done))
      | ((with_reducible refine BIF.dec ?_ ?_) <;> intro _)
      | ((with_reducible refine BIF.s ?_ ?_) <;> intro _)
      | (with_reducible refine NEXTK.normal ?_)
      | (with_reducible refine NEXTK.ret ?_)
      | (with_reducible refine NEXTK.exit ?_)
      | (with_reducible refine SEQ.plain ?_)
      | (with_reducible refine hK _ _ ?_)
      | ((with_reducible refine AR.ok ?_ ?_); exact ⟨by first | omega | (dsimp only; omega), by first | omega | (dsimp only; omega)⟩)
      | (with_reducible refine AR.wr ?_)
      | ((with_reducible intro w3 e3); try have z3 := cutLe e3)
      | ((with_reducible intro h3); have h4 := Nat.le_of_lt h3; clear h4)))
    all_goals
      intro hx
      refine ⟨?_, hx⟩
      rw [e]; rfl
theorem SeatMinutesS_c (a : Option Addr) (n c : Nat) (xs : List Vis) (r : Int) (w : World) (hr : Row w a 4 (xs.map encVis)) (hn : xs.length = n) (hm : n ≤ 4611686018427387904) :
    Calls Try.prog 13 #[.slice a n c, .int .i64 r] w fun e w' => e = .returned (.tuple #[.int .i64 (minsP xs r).1, .bool (minsP xs r).2]) ∧ E0 w w' := by
  refine enterK Non 43 Try.func13 rfl rfl rfl fun K hK => ?_
  by_cases ho : areV xs = true ∧ inB r 1 999 = true
  · repeat (any_goals (
      conv => whnf
      first
      | ((with_reducible refine callF (g := 25) ?_ ?_); kernel_rfl; refine ⟨_, l30Good_c _ _ _ xs _ (by repeat (first | assumption | refine Row.e0 ?_ (by assumption))) hn hm, ?_⟩; intro w4 e4; have z4 := cutLe e4)
      | ((with_reducible refine callF (g := 32) ?_ ?_); kernel_rfl; refine ⟨_, l30Reader_c _ _, ?_⟩; intro w4 e4; have z4 := cutLe e4)
      | ((exfalso; simp_all; done))
      | ((intro hx; exfalso; simp_all; done))
      | ((with_reducible refine BIF.dec ?_ ?_) <;> intro _)
      | ((with_reducible refine BIF.s ?_ ?_) <;> intro _)
      | (with_reducible refine NEXTK.normal ?_)
      | (with_reducible refine NEXTK.ret ?_)
      | (with_reducible refine NEXTK.exit ?_)
      | (with_reducible refine SEQ.plain ?_)
      | (with_reducible refine hK _ _ ?_)
      | ((with_reducible refine AR.ok ?_ ?_); exact ⟨by first | omega | (dsimp only; omega), by first | omega | (dsimp only; omega)⟩)
      | (with_reducible refine AR.wr ?_)
      | ((with_reducible intro w3 e3); try have z3 := cutLe e3)
      | ((with_reducible intro h3); have h4 := Nat.le_of_lt h3; clear h4)))
    all_goals
      refine LOOP.mk (Nat × Int) (fun g => [(7, .v (.int .i64 g.1)), (6, .v (.int .i64 g.2))]) (fun g _ => g.1 ≤ n ∧ g.2 = minsOf r (xs.take g.1)) (fun g => n - g.1) (0, 0) rfl ⟨rfl, rfl, trivial⟩ ⟨Nat.zero_le _, by simp [minsOf]⟩ ?_
      rintro ⟨j, s⟩ wr - ⟨hj, hs'⟩
      simp only at hj hs'
      conv => whnf
      repeat (first | ((with_reducible refine NEXTK.normal ?_); conv => whnf) | ((with_reducible refine NEXTK.exit ?_); conv => whnf) | ((with_reducible refine NEXTK.ret ?_); conv => whnf) | ((with_reducible refine SEQ.plain ?_); conv => whnf) | ((with_reducible refine AR.ok ?_ ?_); exact ⟨by omega, by omega⟩; conv => whnf))
      refine BIF.dec (fun hlt => ?_) (fun hlt => ?_)
      · have hlt' : j < xs.length := by omega
        have his := hr.isSome (by simp; omega)
        have hb := minsOf_le r ho.1 j
        obtain ⟨x, hx⟩ : ∃ x, xs[j]? = some x := ⟨xs[j]'(by omega), by simp⟩
        have hx2 := okV_spec (areV_at ho.1 hx)
        have ht := minsOf_take r hx
        repeat (any_goals (
          conv => whnf
          first
          | ((with_reducible refine OBL.mk ?_ (fun _ => ?_)); exact ⟨by omega, by omega, his⟩)
          | ((with_reducible refine ELD.at (j) hr ?_ ?_ ?_ (fun x' hx' => ?_)); exact mAddr_Non _; (first | rfl | omega); exact hlt'; obtain rfl : x = x' := by (rw [hx] at hx'; exact Option.some.inj hx'))
          | ((with_reducible refine DRAW.quiet ?_ ?_ ?_); kernel_rfl; kernel_rfl)
          | ((with_reducible refine BIF.dec ?_ ?_) <;> intro _)
          | ((with_reducible refine BIF.s ?_ ?_) <;> intro _)
          | (with_reducible refine NEXTK.normal ?_)
          | (with_reducible refine NEXTK.ret ?_)
          | (with_reducible refine NEXTK.exit ?_)
          | (with_reducible refine SEQ.plain ?_)
          | (with_reducible refine hK _ _ ?_)
          | ((with_reducible refine AR.ok ?_ ?_); exact ⟨by first | omega | (dsimp only; omega), by first | omega | (dsimp only; omega)⟩)
          | (with_reducible refine AR.wr ?_)
          | ((with_reducible intro w3 e3); try have z3 := cutLe e3)
          | ((with_reducible intro h3); have h4 := Nat.le_of_lt h3; clear h4)))
        all_goals
          refine ⟨(j + 1, _), rfl, ⟨rfl, rfl, trivial⟩, rfl, rfl, ⟨by simp; omega, ?_⟩, by simp; omega⟩
          simp only [ht, hs']
          simp_all <;> omega
      · have hkj : j = xs.length := by omega
        repeat (any_goals (
          conv => whnf
          first
          | ((with_reducible refine BIF.dec ?_ ?_) <;> intro _)
          | ((with_reducible refine BIF.s ?_ ?_) <;> intro _)
          | (with_reducible refine NEXTK.normal ?_)
          | (with_reducible refine NEXTK.ret ?_)
          | (with_reducible refine NEXTK.exit ?_)
          | (with_reducible refine SEQ.plain ?_)
          | (with_reducible refine hK _ _ ?_)
          | ((with_reducible refine AR.ok ?_ ?_); exact ⟨by first | omega | (dsimp only; omega), by first | omega | (dsimp only; omega)⟩)
          | (with_reducible refine AR.wr ?_)
          | ((with_reducible intro w3 e3); try have z3 := cutLe e3)
          | ((with_reducible intro h3); have h4 := Nat.le_of_lt h3; clear h4)))
        intro hx
        refine ⟨?_, hx⟩
        rw [hkj, List.take_length] at hs'
        simp [minsP, ho.1, ho.2, resV, hs']
  · have e : minsP xs r = (0, false) := by
      unfold minsP
      rw [if_neg (by simpa using ho)]
    repeat (any_goals (
      conv => whnf
      first
      | ((with_reducible refine callF (g := 25) ?_ ?_); kernel_rfl; refine ⟨_, l30Good_c _ _ _ xs _ (by repeat (first | assumption | refine Row.e0 ?_ (by assumption))) hn hm, ?_⟩; intro w4 e4; have z4 := cutLe e4)
      | ((with_reducible refine callF (g := 32) ?_ ?_); kernel_rfl; refine ⟨_, l30Reader_c _ _, ?_⟩; intro w4 e4; have z4 := cutLe e4)
      | ((exfalso; simp_all; done))
      | ((with_reducible refine BIF.dec ?_ ?_) <;> intro _)
      | ((with_reducible refine BIF.s ?_ ?_) <;> intro _)
      | (with_reducible refine NEXTK.normal ?_)
      | (with_reducible refine NEXTK.ret ?_)
      | (with_reducible refine NEXTK.exit ?_)
      | (with_reducible refine SEQ.plain ?_)
      | (with_reducible refine hK _ _ ?_)
      | ((with_reducible refine AR.ok ?_ ?_); exact ⟨by first | omega | (dsimp only; omega), by first | omega | (dsimp only; omega)⟩)
      | (with_reducible refine AR.wr ?_)
      | ((with_reducible intro w3 e3); try have z3 := cutLe e3)
      | ((with_reducible intro h3); have h4 := Nat.le_of_lt h3; clear h4)))
    all_goals
      intro hx
      refine ⟨?_, hx⟩
      rw [e]; rfl

end Go.Proofs.Ytlakfbbnhedcoaa

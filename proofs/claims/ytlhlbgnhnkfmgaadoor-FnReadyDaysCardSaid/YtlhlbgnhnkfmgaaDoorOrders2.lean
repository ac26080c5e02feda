/- The pages that wait are what the plain functions say. -/
import Derived.Test.YtlhlbgnhnkfmgaaDoorRows
import Derived.Test.YtlhlbgnhnkfmgaaDoorOrders
namespace Go.Proofs.YtlhlbgnhnkfmgaaDoor
open Go Go.X Go.Proofs Go.ChangeShapes Go.WideShapes Go.ChangeAt Go.RowKit
open Go.ChangeMaps (open_string shut_string)
set_option maxHeartbeats 1000000
set_option maxRecDepth 20000
set_option linter.unusedVariables false
set_option linter.unusedSimpArgs false
def waitSum : List Ord → Int
  | [] => 0
  | x :: r => (if x.fReady = -1 then x.fPages else 0) + waitSum r
theorem waitSum_append (xs ys : List Ord) : waitSum (xs ++ ys) = waitSum xs + waitSum ys := by
  induction xs with
  | nil => simp [waitSum]
  | cons x r ih => simp [waitSum, ih]; omega
theorem waitSum_take {xs : List Ord} {k : Nat} {x : Ord} (h : xs[k]? = some x) : waitSum (xs.take (k + 1)) = waitSum (xs.take k) + (if x.fReady = -1 then x.fPages else 0) := by
  rw [List.take_add_one, h, waitSum_append]; simp [waitSum]
def pagesOk (xs : List Ord) : Prop := xs.length ≤ 12 ∧ ∀ x ∈ xs, 1 ≤ x.fPages ∧ x.fPages ≤ 50
theorem waitSum_bnd {xs : List Ord} (h : ∀ x ∈ xs, 1 ≤ x.fPages ∧ x.fPages ≤ 50) : 0 ≤ waitSum xs ∧ waitSum xs ≤ 50 * xs.length := by
  induction xs with
  | nil => simp [waitSum]
  | cons x r ih =>
    have := ih (fun y hy => h y (by simp [hy]))
    have h0 := h x (by simp)
    simp only [waitSum, List.length_cons]
    split <;> omega
theorem waitSum_le {xs : List Ord} (h : pagesOk xs) (k : Nat) : 0 ≤ waitSum (xs.take k) ∧ waitSum (xs.take k) ≤ 600 := by
  have := waitSum_bnd (xs := xs.take k) (fun x hx => h.2 x (List.mem_of_mem_take hx))
  have hl : (xs.take k).length ≤ 12 := by simp; have := h.1; omega
  omega
theorem okO_spec {x : Ord} (h : okO x = true) : (1 ≤ x.fId ∧ x.fId ≤ 99) ∧ (1 ≤ x.fReader ∧ x.fReader ≤ 999) ∧ (1 ≤ x.fPages ∧ x.fPages ≤ 50) ∧ (0 ≤ x.fPlaced ∧ x.fPlaced ≤ 4000) ∧ (x.fReady = -1 ∨ (0 ≤ x.fReady ∧ x.fReady ≤ 4000) ∧ x.fPlaced ≤ x.fReady) := by
  simp [okO, inB] at h
  omega
theorem areO_len {xs : List Ord} (h : areO xs = true) : xs.length ≤ 12 := by
  simp [areO] at h; exact h.2
theorem areO_at {xs : List Ord} (h : areO xs = true) {k : Nat} {x : Ord} (hx : xs[k]? = some x) : okO x = true := by
  simp only [areO, okUpto, Bool.and_eq_true, List.all_eq_true, List.mem_range] at h
  have hk : k < xs.length := by
    rcases Nat.lt_or_ge k xs.length with h | h
    · exact h
    · rw [List.getElem?_eq_none h] at hx; cases hx
  have := h.1 k hk
  simp [okAt, hx] at this
  exact this.1
theorem areO_ok {xs : List Ord} (h : areO xs = true) : ∀ x ∈ xs, okO x = true := by
  intro x hx
  obtain ⟨k, hk⟩ := List.getElem?_of_mem hx
  exact areO_at h hk
theorem areO_pages {xs : List Ord} (h : areO xs = true) : pagesOk xs := ⟨areO_len h, fun x hx => (okO_spec (areO_ok h x hx)).2.2.1⟩
theorem waits_c (x : Ord) (w : World) : Calls Tryd.prog 27 #[.agg (encOrd x).toArray] w fun e w' => e = .returned (.bool (decide (x.fReady = -1))) ∧ E0 w w' := by
  refine enterK Non 6 Tryd.func27 rfl rfl rfl fun K hK => ?_
  repeat (any_goals (
    conv => whnf
    first
    | ((with_reducible refine BIF.dec ?_ ?_) <;> intro _)
    | ((with_reducible refine BIF.s ?_ ?_) <;> intro _)
    | (with_reducible refine NEXTK.normal ?_)
    | (with_reducible refine NEXTK.ret ?_)
    | (with_reducible refine NEXTK.exit ?_)
    | (with_reducible refine SEQ.plain ?_)
    | (with_reducible refine hK _ _ ?_)
    | ((with_reducible refine RUNL.agg (fun _ => ?_) ?_); (focus kernel_rfl))
    | (with_reducible refine RUNL.run ?_)
    | ((with_reducible refine AR.ok ?_ ?_); exact ⟨by first | omega | (dsimp only; omega), by first | omega | (dsimp only; omega)⟩)
    | (with_reducible refine AR.wr ?_)
    | ((with_reducible intro w3 e3); try have z3 := cutLe e3)
    | ((with_reducible intro h3); have h4 := Nat.le_of_lt h3; clear h4)))
  intro hx
  refine ⟨?_, hx⟩
  simp [resV]; rfl
theorem pagesUpTo_c (a : Option Addr) (n c k : Nat) (xs : List Ord) (w : World) (i : Int) (hi : i = (k : Int) - 1) (hr : Row w a 5 (xs.map encOrd)) (hn : xs.length = n) (hc : n ≤ c ∧ c < 9223372036854775808) (hk : k ≤ n) (hp : pagesOk xs) :
    Calls Tryd.prog 55 #[.slice a n c, .int .i64 i] w fun e w' => e = .returned (.int .i64 (waitSum (xs.take k))) ∧ E0 w w' := by
  subst hi
  have hl := hp.1
  refine enterK Non 25 Tryd.func55 rfl rfl rfl fun K hK => ?_
  conv => whnf
  repeat (first | ((with_reducible refine NEXTK.normal ?_); conv => whnf) | ((with_reducible refine NEXTK.exit ?_); conv => whnf) | ((with_reducible refine NEXTK.ret ?_); conv => whnf) | ((with_reducible refine SEQ.plain ?_); conv => whnf) | ((with_reducible refine AR.ok ?_ ?_); exact ⟨by omega, by omega⟩; conv => whnf))
  refine OBL.mk (by omega) (fun _ => ?_)
  conv => whnf
  repeat (first | ((with_reducible refine NEXTK.normal ?_); conv => whnf) | ((with_reducible refine NEXTK.exit ?_); conv => whnf) | ((with_reducible refine NEXTK.ret ?_); conv => whnf) | ((with_reducible refine SEQ.plain ?_); conv => whnf) | ((with_reducible refine AR.ok ?_ ?_); exact ⟨by omega, by omega⟩; conv => whnf))
  have hs := hr.sub 0 (k - 1 + 1) c (by omega)
  have e0 : (xs.drop (Int.toNat 0)).take ((k - 1 + 1 : Int).toNat - Int.toNat 0) = xs.take k := by
    simp
  rw [e0] at hs
  refine LOOP.mk (Nat × Int) (fun g => [(13, .v (.int .i64 g.1)), (5, .v (.int .i64 g.2))]) (fun g _ => g.1 ≤ k ∧ g.2 = waitSum (xs.take g.1)) (fun g => k - g.1) (0, 0) rfl ⟨rfl, rfl, trivial⟩ ⟨Nat.zero_le _, by simp [waitSum]⟩ ?_
  rintro ⟨j, s⟩ wr - ⟨hj, hs'⟩
  simp only at hj hs'
  conv => whnf
  repeat (first | ((with_reducible refine NEXTK.normal ?_); conv => whnf) | ((with_reducible refine NEXTK.exit ?_); conv => whnf) | ((with_reducible refine NEXTK.ret ?_); conv => whnf) | ((with_reducible refine SEQ.plain ?_); conv => whnf) | ((with_reducible refine AR.ok ?_ ?_); exact ⟨by omega, by omega⟩; conv => whnf))
  refine BIF.dec (fun hlt => ?_) (fun hlt => ?_)
  · have hlt' : j < (xs.take k).length := by simp; omega
    have his := hs.isSome (by simp; omega)
    have hb := waitSum_le hp j
    obtain ⟨x, hx⟩ : ∃ x, xs[j]? = some x := ⟨xs[j]'(by omega), by simp⟩
    have hx2 := hp.2 x (List.mem_of_getElem? hx)
    have ht := waitSum_take hx
    repeat (any_goals (
      conv => whnf
      first
      | ((with_reducible refine OBL.mk ?_ (fun _ => ?_)); exact ⟨by omega, by omega, his⟩)
      | ((with_reducible refine ELD.at j hs ?_ rfl hlt' (fun x' hx' => ?_)); exact mAddr_Non _; obtain rfl : x = x' := by (rw [List.getElem?_take, if_pos (by omega), hx] at hx'; exact Option.some.inj hx'))
      | ((with_reducible refine callF (g := 27) ?_ ?_); kernel_rfl; refine ⟨_, waits_c _ _, ?_⟩; intro w4 e4; have z4 := cutLe e4)
      | ((with_reducible refine BIF.dec ?_ ?_) <;> intro _)
      | ((with_reducible refine BIF.s ?_ ?_) <;> intro _)
      | (with_reducible refine NEXTK.normal ?_)
      | (with_reducible refine NEXTK.ret ?_)
      | (with_reducible refine NEXTK.exit ?_)
      | (with_reducible refine SEQ.plain ?_)
      | (with_reducible refine hK _ _ ?_)
      | ((with_reducible refine RUNL.agg (fun _ => ?_) ?_); (focus kernel_rfl))
      | (with_reducible refine RUNL.run ?_)
      | ((with_reducible refine AR.ok ?_ ?_); exact ⟨by first | omega | (dsimp only; omega), by first | omega | (dsimp only; omega)⟩)
      | (with_reducible refine AR.wr ?_)
      | ((with_reducible intro w3 e3); try have z3 := cutLe e3)
      | ((with_reducible intro h3); have h4 := Nat.le_of_lt h3; clear h4)))
    all_goals
      rename_i hw
      refine ⟨(j + 1, _), rfl, ⟨rfl, rfl, trivial⟩, rfl, rfl, ⟨by simp; omega, ?_⟩, by simp; omega⟩
      simp only [ht, hs']
      simp [hw]
  · have hkj : j = k := by omega
    repeat (any_goals (
      conv => whnf
      first
      | ((with_reducible refine BIF.dec ?_ ?_) <;> intro _)
      | ((with_reducible refine BIF.s ?_ ?_) <;> intro _)
      | (with_reducible refine NEXTK.normal ?_)
      | (with_reducible refine NEXTK.ret ?_)
      | (with_reducible refine NEXTK.exit ?_)
      | (with_reducible refine SEQ.plain ?_)
      | (with_reducible refine hK _ _ ?_)
      | ((with_reducible refine RUNL.agg (fun _ => ?_) ?_); (focus kernel_rfl))
      | (with_reducible refine RUNL.run ?_)
      | ((with_reducible refine AR.ok ?_ ?_); exact ⟨by first | omega | (dsimp only; omega), by first | omega | (dsimp only; omega)⟩)
      | (with_reducible refine AR.wr ?_)
      | ((with_reducible intro w3 e3); try have z3 := cutLe e3)
      | ((with_reducible intro h3); have h4 := Nat.le_of_lt h3; clear h4)))
    intro hx
    refine ⟨?_, hx⟩
    rw [hs', hkj]; rfl
theorem l28Pages_c (a : Option Addr) (n c : Nat) (xs : List Ord) (w : World) (hr : Row w a 5 (xs.map encOrd)) (hn : xs.length = n) (hp : pagesOk xs) :
    Calls Tryd.prog 35 #[.slice a n c] w fun e w' => e = .returned (.int .i64 (waitSum xs)) ∧ E0 w w' := by
  have hl := hp.1
  refine enterK Non 25 Tryd.func35 rfl rfl rfl fun K hK => ?_
  conv => whnf
  repeat (first | ((with_reducible refine NEXTK.normal ?_); conv => whnf) | ((with_reducible refine NEXTK.exit ?_); conv => whnf) | ((with_reducible refine NEXTK.ret ?_); conv => whnf) | ((with_reducible refine SEQ.plain ?_); conv => whnf) | ((with_reducible refine AR.ok ?_ ?_); exact ⟨by omega, by omega⟩; conv => whnf))
  refine LOOP.mk (Nat × Int) (fun g => [(4, .v (.int .i64 g.1)), (3, .v (.int .i64 g.2))]) (fun g _ => g.1 ≤ n ∧ g.2 = waitSum (xs.take g.1)) (fun g => n - g.1) (0, 0) rfl ⟨rfl, rfl, trivial⟩ ⟨Nat.zero_le _, by simp [waitSum]⟩ ?_
  rintro ⟨j, s⟩ wr - ⟨hj, hs'⟩
  simp only at hj hs'
  conv => whnf
  repeat (first | ((with_reducible refine NEXTK.normal ?_); conv => whnf) | ((with_reducible refine NEXTK.exit ?_); conv => whnf) | ((with_reducible refine NEXTK.ret ?_); conv => whnf) | ((with_reducible refine SEQ.plain ?_); conv => whnf) | ((with_reducible refine AR.ok ?_ ?_); exact ⟨by omega, by omega⟩; conv => whnf))
  refine BIF.dec (fun hlt => ?_) (fun hlt => ?_)
  · have hlt' : j < xs.length := by omega
    have his := hr.isSome (by simp; omega)
    have hb := waitSum_le hp j
    obtain ⟨x, hx⟩ : ∃ x, xs[j]? = some x := ⟨xs[j]'(by omega), by simp⟩
    have hx2 := hp.2 x (List.mem_of_getElem? hx)
    have ht := waitSum_take hx
    repeat (any_goals (
      conv => whnf
      first
      | ((with_reducible refine OBL.mk ?_ (fun _ => ?_)); exact ⟨by omega, by omega, his⟩)
      | ((with_reducible refine ELD.at j hr ?_ rfl hlt' (fun x' hx' => ?_)); exact mAddr_Non _; obtain rfl : x = x' := by (rw [hx] at hx'; exact Option.some.inj hx'))
      | ((with_reducible refine BIF.dec ?_ ?_) <;> intro _)
      | ((with_reducible refine BIF.s ?_ ?_) <;> intro _)
      | (with_reducible refine NEXTK.normal ?_)
      | (with_reducible refine NEXTK.ret ?_)
      | (with_reducible refine NEXTK.exit ?_)
      | (with_reducible refine SEQ.plain ?_)
      | (with_reducible refine hK _ _ ?_)
      | ((with_reducible refine RUNL.agg (fun _ => ?_) ?_); (focus kernel_rfl))
      | (with_reducible refine RUNL.run ?_)
      | ((with_reducible refine AR.ok ?_ ?_); exact ⟨by first | omega | (dsimp only; omega), by first | omega | (dsimp only; omega)⟩)
      | (with_reducible refine AR.wr ?_)
      | ((with_reducible intro w3 e3); try have z3 := cutLe e3)
      | ((with_reducible intro h3); have h4 := Nat.le_of_lt h3; clear h4)))
    all_goals
      refine ⟨(j + 1, _), rfl, ⟨rfl, rfl, trivial⟩, rfl, rfl, ⟨by simp; omega, ?_⟩, by simp; omega⟩
      simp only [ht, hs']
      simp_all
  · have hkj : j = xs.length := by omega
    repeat (any_goals (
      conv => whnf
      first
      | ((with_reducible refine BIF.dec ?_ ?_) <;> intro _)
      | ((with_reducible refine BIF.s ?_ ?_) <;> intro _)
      | (with_reducible refine NEXTK.normal ?_)
      | (with_reducible refine NEXTK.ret ?_)
      | (with_reducible refine NEXTK.exit ?_)
      | (with_reducible refine SEQ.plain ?_)
      | (with_reducible refine hK _ _ ?_)
      | ((with_reducible refine RUNL.agg (fun _ => ?_) ?_); (focus kernel_rfl))
      | (with_reducible refine RUNL.run ?_)
      | ((with_reducible refine AR.ok ?_ ?_); exact ⟨by first | omega | (dsimp only; omega), by first | omega | (dsimp only; omega)⟩)
      | (with_reducible refine AR.wr ?_)
      | ((with_reducible intro w3 e3); try have z3 := cutLe e3)
      | ((with_reducible intro h3); have h4 := Nat.le_of_lt h3; clear h4)))
    intro hx
    refine ⟨?_, hx⟩
    rw [hs', hkj, List.take_length]; rfl
def waitingP (xs : List Ord) : Int × Bool := if areO xs then (waitSum xs, true) else (0, false)

/- What an order costs. -/
import Derived.Test.YtlhlbgnhnkfmgaaRows
import Derived.Test.YtlhlbgnhnkfmgaaOrders3
namespace Go.Proofs.Ytlhlbgnhnkfmgaa
open Go Go.X Go.Proofs Go.ChangeShapes Go.WideShapes Go.ChangeAt Go.RowKit
open Go.ChangeMaps (open_string shut_string)
set_option maxHeartbeats 1000000
set_option maxRecDepth 20000
set_option linter.unusedVariables false
set_option linter.unusedSimpArgs false
def price (x : Ord) : Int := 10 * min 20 x.fPages + 8 * max 0 (x.fPages - 20)
theorem cost_c (x : Ord) (w : World) (h : 1 ≤ x.fPages ∧ x.fPages ≤ 50) : Calls Try.prog 35 #[.agg (encOrd x).toArray] w fun e w' => e = .returned (.int .i64 (price x)) ∧ E0 w w' := by
  refine enterK Non 13 Try.func35 rfl rfl rfl fun K hK => ?_
  repeat (any_goals (
    conv => whnf
    first
    | ((with_reducible refine BIF.dec ?_ ?_) <;> intro _)
    | ((with_reducible refine BIF.s ?_ ?_) <;> intro _)
    | (with_reducible refine NEXTK.normal ?_)
    | (with_reducible refine NEXTK.ret ?_)
    | (with_reducible refine NEXTK.exit ?_)
    | (with_reducible refine SEQ.plain ?_)
    | (with_reducible refine hK _ _ ?_)
    | ((with_reducible refine RUNL.agg (fun _ => ?_) ?_); (focus kernel_rfl))
    | (with_reducible refine RUNL.run ?_)
    | ((with_reducible refine AR.ok ?_ ?_); exact ⟨by first | omega | (dsimp only; omega), by first | omega | (dsimp only; omega)⟩)
    | (with_reducible refine AR.wr ?_)
    | ((with_reducible intro w3 e3); try have z3 := cutLe e3)
    | ((with_reducible intro h3); have h4 := Nat.le_of_lt h3; clear h4)))
  intro hx
  exact ⟨rfl, hx⟩
theorem l28Price_c (x : Ord) (w : World) (h : 1 ≤ x.fPages ∧ x.fPages ≤ 50) : Calls Try.prog 41 #[.agg (encOrd x).toArray] w fun e w' => e = .returned (.int .i64 (price x)) ∧ E0 w w' := by
  refine enterK Non 13 Try.func41 rfl rfl rfl fun K hK => ?_
  conv => whnf
  repeat (first | ((with_reducible refine NEXTK.normal ?_); conv => whnf) | ((with_reducible refine NEXTK.exit ?_); conv => whnf) | ((with_reducible refine NEXTK.ret ?_); conv => whnf) | ((with_reducible refine SEQ.plain ?_); conv => whnf) | ((with_reducible refine AR.ok ?_ ?_); exact ⟨by omega, by omega⟩; conv => whnf))
  intro w1 e1 h1
  conv => whnf
  repeat (first | ((with_reducible refine NEXTK.normal ?_); conv => whnf) | ((with_reducible refine NEXTK.exit ?_); conv => whnf) | ((with_reducible refine NEXTK.ret ?_); conv => whnf) | ((with_reducible refine SEQ.plain ?_); conv => whnf) | ((with_reducible refine AR.ok ?_ ?_); exact ⟨by omega, by omega⟩; conv => whnf))
  refine DRAW.quiet (by kernel_rfl) (by kernel_rfl) ?_
  repeat (any_goals (
    conv => whnf
    first
    | ((with_reducible refine callQ (g := 51) ?_ ?_); kernel_rfl; refine ⟨_, fun w' _ => l1Least_c _ _ _, ?_⟩)
    | ((with_reducible refine callQ (g := 52) ?_ ?_); kernel_rfl; refine ⟨_, fun w' _ => l1Most_c _ _ _, ?_⟩)
    | ((with_reducible refine BIF.dec ?_ ?_) <;> intro _)
    | ((with_reducible refine BIF.s ?_ ?_) <;> intro _)
    | (with_reducible refine NEXTK.normal ?_)
    | (with_reducible refine NEXTK.ret ?_)
    | (with_reducible refine NEXTK.exit ?_)
    | (with_reducible refine SEQ.plain ?_)
    | (with_reducible refine hK _ _ ?_)
    | ((with_reducible refine RUNL.agg (fun _ => ?_) ?_); (focus kernel_rfl))
    | (with_reducible refine RUNL.run ?_)
    | ((with_reducible refine AR.ok ?_ ?_); exact ⟨by first | omega | (dsimp only; omega), by first | omega | (dsimp only; omega)⟩)
    | (with_reducible refine AR.wr ?_)
    | ((with_reducible intro w3 e3); try have z3 := cutLe e3)
    | ((with_reducible intro h3); have h4 := Nat.le_of_lt h3; clear h4)))
  intro hx
  exact ⟨rfl, hx⟩
instance : Inhabited Ord := ⟨⟨0, 0, 0, 0, 0⟩⟩
def priceP (xs : List Ord) (id : Int) : Int × Bool := if areO xs && decide (0 ≤ idAt xs id) then (price (xs.getD (idAt xs id).toNat default), true) else (0, false)
theorem priceP_bad {xs : List Ord} {id : Int} (h : areO xs = false ∨ idAt xs id = -1) : priceP xs id = (0, false) := by
  unfold priceP
  rcases h with h | h <;> simp [h]
theorem priceP_good {xs : List Ord} {id : Int} {k : Nat} {x : Ord} (h : areO xs = true) (hk : idAt xs id = k) (hx : xs[k]? = some x) : priceP xs id = (price x, true) := by
  unfold priceP
  simp [h, hk, hx]
theorem PriceOf_c (a : Option Addr) (n c : Nat) (xs : List Ord) (id : Int) (w : World) (hr : Row w a 5 (xs.map encOrd)) (hn : xs.length = n) (hm : n ≤ 4611686018427387904) :
    Calls Try.prog 12 #[.slice a n c, .int .i64 id] w fun e w' => e = .returned (.tuple #[.int .i64 (priceP xs id).1, .bool (priceP xs id).2]) ∧ E0 w w' := by
  refine enterK Non 22 Try.func12 rfl rfl rfl fun K hK => ?_
  rcases idAt_spec xs id with hi | ⟨k, x, hi, hk, hx, hid⟩
  · repeat (any_goals (
      conv => whnf
      first
      | ((with_reducible refine callF (g := 36) ?_ ?_); kernel_rfl; refine ⟨_, orderAt_c _ _ _ xs id _ (by repeat (first | assumption | refine Row.e0 ?_ (by assumption))) hn hm, ?_⟩; intro w4 e4; have z4 := cutLe e4)
      | ((with_reducible refine callF (g := 22) ?_ ?_); kernel_rfl; refine ⟨_, AreOrders_c _ _ _ xs _ (by repeat (first | assumption | refine Row.e0 ?_ (by assumption))) hn hm, ?_⟩; intro w4 e4; have z4 := cutLe e4)
      | ((with_reducible refine BIF.dec ?_ ?_) <;> intro _)
      | ((with_reducible refine BIF.s ?_ ?_) <;> intro _)
      | (with_reducible refine NEXTK.normal ?_)
      | (with_reducible refine NEXTK.ret ?_)
      | (with_reducible refine NEXTK.exit ?_)
      | (with_reducible refine SEQ.plain ?_)
      | (with_reducible refine hK _ _ ?_)
      | ((with_reducible refine RUNL.agg (fun _ => ?_) ?_); (focus kernel_rfl))
      | (with_reducible refine RUNL.run ?_)
      | ((with_reducible refine AR.ok ?_ ?_); exact ⟨by first | omega | (dsimp only; omega), by first | omega | (dsimp only; omega)⟩)
      | (with_reducible refine AR.wr ?_)
      | ((with_reducible intro w3 e3); try have z3 := cutLe e3)
      | ((with_reducible intro h3); have h4 := Nat.le_of_lt h3; clear h4)))
    all_goals first | (intro hw; refine ⟨?_, hw⟩; rw [priceP_bad (.inr hi)]; rfl) | (exfalso; omega)
  · cases ho : areO xs with
    | false =>
      repeat (any_goals (
        conv => whnf
        first
        | ((with_reducible refine callF (g := 36) ?_ ?_); kernel_rfl; refine ⟨_, orderAt_c _ _ _ xs id _ (by repeat (first | assumption | refine Row.e0 ?_ (by assumption))) hn hm, ?_⟩; intro w4 e4; have z4 := cutLe e4)
        | ((with_reducible refine callF (g := 22) ?_ ?_); kernel_rfl; refine ⟨_, AreOrders_c _ _ _ xs _ (by repeat (first | assumption | refine Row.e0 ?_ (by assumption))) hn hm, ?_⟩; intro w4 e4; have z4 := cutLe e4)
        | ((with_reducible refine BIF.s (fun h => absurd h ?_) (fun _ => ?_)); focus (first | (simp; done) | (simp; omega)))
        | ((with_reducible refine BIF.s (fun _ => ?_) (fun h => absurd h ?_)); rotate_left; focus (first | (simp; done) | (simp; omega)))
        | ((with_reducible refine BIF.dec ?_ ?_) <;> intro _)
        | ((with_reducible refine BIF.s ?_ ?_) <;> intro _)
        | (with_reducible refine NEXTK.normal ?_)
        | (with_reducible refine NEXTK.ret ?_)
        | (with_reducible refine NEXTK.exit ?_)
        | (with_reducible refine SEQ.plain ?_)
        | (with_reducible refine hK _ _ ?_)
        | ((with_reducible refine RUNL.agg (fun _ => ?_) ?_); (focus kernel_rfl))
        | (with_reducible refine RUNL.run ?_)
        | ((with_reducible refine AR.ok ?_ ?_); exact ⟨by first | omega | (dsimp only; omega), by first | omega | (dsimp only; omega)⟩)
        | (with_reducible refine AR.wr ?_)
        | ((with_reducible intro w3 e3); try have z3 := cutLe e3)
        | ((with_reducible intro h3); have h4 := Nat.le_of_lt h3; clear h4)))
      intro hw
      refine ⟨?_, hw⟩
      rw [priceP_bad (.inl ho)]; rfl
    | true =>
      have his := hr.isSome (by simp; omega)
      have hpg := (areO_pages ho).2 x (List.mem_of_getElem? hx)
      repeat (any_goals (
        conv => whnf
        first
        | ((with_reducible refine callF (g := 36) ?_ ?_); kernel_rfl; refine ⟨_, orderAt_c _ _ _ xs id _ (by repeat (first | assumption | refine Row.e0 ?_ (by assumption))) hn hm, ?_⟩; intro w4 e4; have z4 := cutLe e4)
        | ((with_reducible refine callF (g := 22) ?_ ?_); kernel_rfl; refine ⟨_, AreOrders_c _ _ _ xs _ (by repeat (first | assumption | refine Row.e0 ?_ (by assumption))) hn hm, ?_⟩; intro w4 e4; have z4 := cutLe e4)
        | ((with_reducible refine BIF.s (fun h => absurd h ?_) (fun _ => ?_)); focus (first | (simp; done) | (simp; omega)))
        | ((with_reducible refine BIF.s (fun _ => ?_) (fun h => absurd h ?_)); rotate_left; focus (first | (simp; done) | (simp; omega)))
        | ((with_reducible refine OBL.mk ?_ (fun _ => ?_)); exact ⟨by omega, by omega, his⟩)
        | ((with_reducible refine ELD.at k hr ?_ ?_ hk (fun x' hx' => ?_)); exact mAddr_Non _; omega; obtain rfl : x = x' := by (rw [hx] at hx'; exact Option.some.inj hx'))
        | ((with_reducible refine callF (g := 35) ?_ ?_); kernel_rfl; refine ⟨_, cost_c _ _ hpg, ?_⟩; intro w4 e4; have z4 := cutLe e4)
        | ((with_reducible refine BIF.dec ?_ ?_) <;> intro _)
        | ((with_reducible refine BIF.s ?_ ?_) <;> intro _)
        | (with_reducible refine NEXTK.normal ?_)
        | (with_reducible refine NEXTK.ret ?_)
        | (with_reducible refine NEXTK.exit ?_)
        | (with_reducible refine SEQ.plain ?_)
        | (with_reducible refine hK _ _ ?_)
        | ((with_reducible refine RUNL.agg (fun _ => ?_) ?_); (focus kernel_rfl))
        | (with_reducible refine RUNL.run ?_)
        | ((with_reducible refine AR.ok ?_ ?_); exact ⟨by first | omega | (dsimp only; omega), by first | omega | (dsimp only; omega)⟩)
        | (with_reducible refine AR.wr ?_)
        | ((with_reducible intro w3 e3); try have z3 := cutLe e3)
        | ((with_reducible intro h3); have h4 := Nat.le_of_lt h3; clear h4)))
      intro hw
      refine ⟨?_, hw⟩
      rw [priceP_good ho hi hx]; rfl
theorem PriceOfS_c (a : Option Addr) (n c : Nat) (xs : List Ord) (id : Int) (w : World) (hr : Row w a 5 (xs.map encOrd)) (hn : xs.length = n) (hm : n ≤ 4611686018427387904) :
    Calls Try.prog 18 #[.slice a n c, .int .i64 id] w fun e w' => e = .returned (.tuple #[.int .i64 (priceP xs id).1, .bool (priceP xs id).2]) ∧ E0 w w' := by
  refine enterK Non 22 Try.func18 rfl rfl rfl fun K hK => ?_
  rcases idAt_spec xs id with hi | ⟨k, x, hi, hk, hx, hid⟩
  · repeat (any_goals (
      conv => whnf
      first
      | ((with_reducible refine callF (g := 39) ?_ ?_); kernel_rfl; refine ⟨_, l28Find_c _ _ _ xs id _ (by repeat (first | assumption | refine Row.e0 ?_ (by assumption))) hn hm, ?_⟩; intro w4 e4; have z4 := cutLe e4)
      | ((with_reducible refine callF (g := 30) ?_ ?_); kernel_rfl; refine ⟨_, l28Good_c _ _ _ xs _ (by repeat (first | assumption | refine Row.e0 ?_ (by assumption))) hn hm, ?_⟩; intro w4 e4; have z4 := cutLe e4)
      | ((with_reducible refine BIF.dec ?_ ?_) <;> intro _)
      | ((with_reducible refine BIF.s ?_ ?_) <;> intro _)
      | (with_reducible refine NEXTK.normal ?_)
      | (with_reducible refine NEXTK.ret ?_)
      | (with_reducible refine NEXTK.exit ?_)
      | (with_reducible refine SEQ.plain ?_)
      | (with_reducible refine hK _ _ ?_)
      | ((with_reducible refine RUNL.agg (fun _ => ?_) ?_); (focus kernel_rfl))
      | (with_reducible refine RUNL.run ?_)
      | ((with_reducible refine AR.ok ?_ ?_); exact ⟨by first | omega | (dsimp only; omega), by first | omega | (dsimp only; omega)⟩)
      | (with_reducible refine AR.wr ?_)
      | ((with_reducible intro w3 e3); try have z3 := cutLe e3)
      | ((with_reducible intro h3); have h4 := Nat.le_of_lt h3; clear h4)))
    all_goals first | (intro hw; refine ⟨?_, hw⟩; rw [priceP_bad (.inr hi)]; rfl) | (exfalso; omega)
  · cases ho : areO xs with
    | false =>
      repeat (any_goals (
        conv => whnf
        first
        | ((with_reducible refine callF (g := 39) ?_ ?_); kernel_rfl; refine ⟨_, l28Find_c _ _ _ xs id _ (by repeat (first | assumption | refine Row.e0 ?_ (by assumption))) hn hm, ?_⟩; intro w4 e4; have z4 := cutLe e4)
        | ((with_reducible refine callF (g := 30) ?_ ?_); kernel_rfl; refine ⟨_, l28Good_c _ _ _ xs _ (by repeat (first | assumption | refine Row.e0 ?_ (by assumption))) hn hm, ?_⟩; intro w4 e4; have z4 := cutLe e4)
        | ((with_reducible refine BIF.s (fun h => absurd h ?_) (fun _ => ?_)); focus (first | (simp; done) | (simp; omega)))
        | ((with_reducible refine BIF.s (fun _ => ?_) (fun h => absurd h ?_)); rotate_left; focus (first | (simp; done) | (simp; omega)))
        | ((with_reducible refine BIF.dec ?_ ?_) <;> intro _)
        | ((with_reducible refine BIF.s ?_ ?_) <;> intro _)
        | (with_reducible refine NEXTK.normal ?_)
        | (with_reducible refine NEXTK.ret ?_)
        | (with_reducible refine NEXTK.exit ?_)
        | (with_reducible refine SEQ.plain ?_)
        | (with_reducible refine hK _ _ ?_)
        | ((with_reducible refine RUNL.agg (fun _ => ?_) ?_); (focus kernel_rfl))
        | (with_reducible refine RUNL.run ?_)
        | ((with_reducible refine AR.ok ?_ ?_); exact ⟨by first | omega | (dsimp only; omega), by first | omega | (dsimp only; omega)⟩)
        | (with_reducible refine AR.wr ?_)
        | ((with_reducible intro w3 e3); try have z3 := cutLe e3)
        | ((with_reducible intro h3); have h4 := Nat.le_of_lt h3; clear h4)))
      intro hw
      refine ⟨?_, hw⟩
      rw [priceP_bad (.inl ho)]; rfl
    | true =>
      have his := hr.isSome (by simp; omega)
      have hpg := (areO_pages ho).2 x (List.mem_of_getElem? hx)
      repeat (any_goals (
        conv => whnf
        first
        | ((with_reducible refine callF (g := 39) ?_ ?_); kernel_rfl; refine ⟨_, l28Find_c _ _ _ xs id _ (by repeat (first | assumption | refine Row.e0 ?_ (by assumption))) hn hm, ?_⟩; intro w4 e4; have z4 := cutLe e4)
        | ((with_reducible refine callF (g := 30) ?_ ?_); kernel_rfl; refine ⟨_, l28Good_c _ _ _ xs _ (by repeat (first | assumption | refine Row.e0 ?_ (by assumption))) hn hm, ?_⟩; intro w4 e4; have z4 := cutLe e4)
        | ((with_reducible refine BIF.s (fun h => absurd h ?_) (fun _ => ?_)); focus (first | (simp; done) | (simp; omega)))
        | ((with_reducible refine BIF.s (fun _ => ?_) (fun h => absurd h ?_)); rotate_left; focus (first | (simp; done) | (simp; omega)))
        | ((with_reducible refine OBL.mk ?_ (fun _ => ?_)); exact ⟨by omega, by omega, his⟩)
        | ((with_reducible refine ELD.at k hr ?_ ?_ hk (fun x' hx' => ?_)); exact mAddr_Non _; omega; obtain rfl : x = x' := by (rw [hx] at hx'; exact Option.some.inj hx'))
        | ((with_reducible refine callF (g := 41) ?_ ?_); kernel_rfl; refine ⟨_, l28Price_c _ _ hpg, ?_⟩; intro w4 e4; have z4 := cutLe e4)
        | ((with_reducible refine BIF.dec ?_ ?_) <;> intro _)
        | ((with_reducible refine BIF.s ?_ ?_) <;> intro _)
        | (with_reducible refine NEXTK.normal ?_)
        | (with_reducible refine NEXTK.ret ?_)
        | (with_reducible refine NEXTK.exit ?_)
        | (with_reducible refine SEQ.plain ?_)
        | (with_reducible refine hK _ _ ?_)
        | ((with_reducible refine RUNL.agg (fun _ => ?_) ?_); (focus kernel_rfl))
        | (with_reducible refine RUNL.run ?_)
        | ((with_reducible refine AR.ok ?_ ?_); exact ⟨by first | omega | (dsimp only; omega), by first | omega | (dsimp only; omega)⟩)
        | (with_reducible refine AR.wr ?_)
        | ((with_reducible intro w3 e3); try have z3 := cutLe e3)
        | ((with_reducible intro h3); have h4 := Nat.le_of_lt h3; clear h4)))
      intro hw
      refine ⟨?_, hw⟩
      rw [priceP_good ho hi hx]; rfl

end Go.Proofs.Ytlhlbgnhnkfmgaa

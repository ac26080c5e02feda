/- The day on which an order is ready. -/
import Derived.Test.YtlhlbgnhnkfmgaaDoorRows
import Derived.Test.YtlhlbgnhnkfmgaaDoorOrders4
namespace Go.Proofs.YtlhlbgnhnkfmgaaDoor
open Go Go.X Go.Proofs Go.ChangeShapes Go.WideShapes Go.ChangeAt Go.RowKit
open Go.ChangeMaps (open_string shut_string)
set_option maxHeartbeats 1000000
set_option maxRecDepth 20000
set_option linter.unusedVariables false
set_option linter.unusedSimpArgs false
theorem tdiv_pos {p r : Int} (hp : 0 ≤ p) (hr : 1 ≤ r) : 0 ≤ p.tdiv r ∧ p.tdiv r ≤ p := by
  rw [Int.tdiv_eq_ediv_of_nonneg hp]
  refine ⟨Int.ediv_nonneg hp (by omega), ?_⟩
  exact Int.ediv_le_self _ hp
theorem tdiv_up {p r : Int} (hp : 1 ≤ p) (hr : 1 ≤ r) : (p + r - 1).tdiv r - 1 = (p - 1).tdiv r := by
  rw [Int.tdiv_eq_ediv_of_nonneg (by omega), Int.tdiv_eq_ediv_of_nonneg (by omega)]
  have : p + r - 1 = (p - 1) + 1 * r := by omega
  rw [this, Int.add_mul_ediv_right _ _ (by omega)]
  omega
def readyD (xs : List Ord) (k : Nat) (day rate : Int) : Int := day + (waitSum (xs.take (k + 1)) - 1).tdiv rate
theorem waitSum_pos {xs : List Ord} {k : Nat} {x : Ord} (hp : pagesOk xs) (hx : xs[k]? = some x) (hw : x.fReady = -1) : 1 ≤ waitSum (xs.take (k + 1)) ∧ waitSum (xs.take (k + 1)) ≤ 600 := by
  have h1 := waitSum_take hx
  have h2 := waitSum_le hp k
  have h3 := waitSum_le hp (k + 1)
  have h4 := hp.2 x (List.mem_of_getElem? hx)
  simp [hw] at h1
  omega
theorem readyDay_c (a : Option Addr) (n c k : Nat) (xs : List Ord) (day rate : Int) (w : World) (x : Ord) (hr : Row w a 5 (xs.map encOrd)) (hn : xs.length = n) (hc : n ≤ c ∧ c < 9223372036854775808) (hp : pagesOk xs) (hx : xs[k]? = some x) (hw : x.fReady = -1) (i : Int) (hi : i = k)
    (hd : 0 ≤ day ∧ day ≤ 4000) (ht : 1 ≤ rate ∧ rate ≤ 100) :
    Calls Tryd.prog 43 #[.slice a n c, .int .i64 i, .int .i64 day, .int .i64 rate] w fun e w' => e = .returned (.int .i64 (readyD xs k day rate)) ∧ E0 w w' := by
  have hk := (List.getElem?_eq_some_iff.1 hx).1
  have hs := waitSum_pos hp hx hw
  have hq := tdiv_pos (p := waitSum (xs.take (k + 1)) + rate - 1) (r := rate) (by omega) ht.1
  refine enterK Non 20 Tryd.func43 rfl rfl rfl fun K hK => ?_
  repeat (any_goals (
    conv => whnf
    first
    | ((with_reducible refine callF (g := 55) ?_ ?_); kernel_rfl; refine ⟨_, pagesUpTo_c _ _ _ (k + 1) xs _ _ (by omega) (by repeat (first | assumption | refine Row.e0 ?_ (by assumption))) hn hc (by omega) hp, ?_⟩; intro w4 e4; have z4 := cutLe e4)
    | ((with_reducible refine OBL.mk ?_ (fun _ => ?_)); omega)
    | ((with_reducible refine BIF.dec ?_ ?_) <;> intro _)
    | ((with_reducible refine BIF.s ?_ ?_) <;> intro _)
    | (with_reducible refine NEXTK.normal ?_)
    | (with_reducible refine NEXTK.ret ?_)
    | (with_reducible refine NEXTK.exit ?_)
    | (with_reducible refine SEQ.plain ?_)
    | (with_reducible refine hK _ _ ?_)
    | ((with_reducible refine RUNL.agg (fun _ => ?_) ?_); (focus kernel_rfl))
    | (with_reducible refine RUNL.run ?_)
    | ((with_reducible refine AR.ok ?_ ?_); exact ⟨by first | omega | (dsimp only; omega), by first | omega | (dsimp only; omega)⟩)
    | (with_reducible refine AR.wr ?_)
    | ((with_reducible intro w3 e3); try have z3 := cutLe e3)
    | ((with_reducible intro h3); have h4 := Nat.le_of_lt h3; clear h4)))
  intro hw'
  refine ⟨?_, hw'⟩
  have := tdiv_up (p := waitSum (xs.take (k + 1))) (r := rate) hs.1 ht.1
  simp only [resV, readyD]
  congr 2
  omega
theorem l28Ready_c (a : Option Addr) (n c k : Nat) (xs : List Ord) (day rate : Int) (w : World) (x : Ord) (hr : Row w a 5 (xs.map encOrd)) (hn : xs.length = n) (hc : n ≤ c ∧ c < 9223372036854775808) (hp : pagesOk xs) (hx : xs[k]? = some x) (hw : x.fReady = -1) (i : Int) (hi : i = k)
    (hd : 0 ≤ day ∧ day ≤ 4000) (ht : 1 ≤ rate ∧ rate ≤ 100) :
    Calls Tryd.prog 45 #[.slice a n c, .int .i64 i, .int .i64 day, .int .i64 rate] w fun e w' => e = .returned (.int .i64 (readyD xs k day rate)) ∧ E0 w w' := by
  subst hi
  have hk := (List.getElem?_eq_some_iff.1 hx).1
  have hs := waitSum_pos hp hx hw
  have hq := tdiv_pos (p := waitSum (xs.take (k + 1)) - 1) (r := rate) (by omega) ht.1
  have hsb := hr.sub 0 (k + 1) c (by omega)
  have e0 : (xs.drop (Int.toNat 0)).take ((k + 1 : Int).toNat - Int.toNat 0) = xs.take (k + 1) := by
    first | (simp; done) | (simp; omega)
  rw [e0] at hsb
  refine enterK Non 19 Tryd.func45 rfl rfl rfl fun K hK => ?_
  repeat (any_goals (
    conv => whnf
    first
    | ((with_reducible refine callF (g := 35) ?_ ?_); kernel_rfl; refine ⟨_, l28Pages_c _ _ _ (xs.take (k + 1)) _ (by repeat (first | assumption | refine Row.e0 ?_ (by assumption))) (by simp; omega) ⟨by simp; have := hp.1; omega, fun y hy => hp.2 y (List.mem_of_mem_take hy)⟩, ?_⟩; intro w4 e4; have z4 := cutLe e4)
    | ((with_reducible refine OBL.mk ?_ (fun _ => ?_)); omega)
    | ((with_reducible refine BIF.dec ?_ ?_) <;> intro _)
    | ((with_reducible refine BIF.s ?_ ?_) <;> intro _)
    | (with_reducible refine NEXTK.normal ?_)
    | (with_reducible refine NEXTK.ret ?_)
    | (with_reducible refine NEXTK.exit ?_)
    | (with_reducible refine SEQ.plain ?_)
    | (with_reducible refine hK _ _ ?_)
    | ((with_reducible refine RUNL.agg (fun _ => ?_) ?_); (focus kernel_rfl))
    | (with_reducible refine RUNL.run ?_)
    | ((with_reducible refine AR.ok ?_ ?_); exact ⟨by first | omega | (dsimp only; omega), by first | omega | (dsimp only; omega)⟩)
    | (with_reducible refine AR.wr ?_)
    | ((with_reducible intro w3 e3); try have z3 := cutLe e3)
    | ((with_reducible intro h3); have h4 := Nat.le_of_lt h3; clear h4)))
  intro hw'
  exact ⟨rfl, hw'⟩
def waitAt (xs : List Ord) (id : Int) : Bool := areO xs && decide (0 ≤ idAt xs id) && decide ((xs.getD (idAt xs id).toNat default).fReady = -1)
theorem waitAt_bad {xs : List Ord} {id : Int} (h : areO xs = false ∨ idAt xs id = -1) : waitAt xs id = false := by
  unfold waitAt
  rcases h with h | h <;> simp [h]
theorem waitAt_good {xs : List Ord} {id : Int} {k : Nat} {x : Ord} (h : areO xs = true) (hk : idAt xs id = k) (hx : xs[k]? = some x) : waitAt xs id = decide (x.fReady = -1) := by
  unfold waitAt
  simp [h, hk, hx]
theorem waitsAt_c (a : Option Addr) (n c : Nat) (xs : List Ord) (id : Int) (w : World) (hr : Row w a 5 (xs.map encOrd)) (hn : xs.length = n) (hm : n ≤ 4611686018427387904) :
    Calls Tryd.prog 41 #[.slice a n c, .int .i64 id] w fun e w' => e = .returned (.tuple #[.int .i64 (idAt xs id), .bool (waitAt xs id)]) ∧ E0 w w' := by
  refine enterK Non 24 Tryd.func41 rfl rfl rfl fun K hK => ?_
  rcases idAt_spec xs id with hi | ⟨k, x, hi, hk, hx, hid⟩
  · repeat (any_goals (
      conv => whnf
      first
      | ((with_reducible refine callF (g := 54) ?_ ?_); kernel_rfl; refine ⟨_, orderAt_c _ _ _ xs id _ (by repeat (first | assumption | refine Row.e0 ?_ (by assumption))) hn hm, ?_⟩; intro w4 e4; have z4 := cutLe e4)
      | ((with_reducible refine callF (g := 28) ?_ ?_); kernel_rfl; refine ⟨_, AreOrders_c _ _ _ xs _ (by repeat (first | assumption | refine Row.e0 ?_ (by assumption))) hn hm, ?_⟩; intro w4 e4; have z4 := cutLe e4)
      | ((with_reducible refine BIF.dec ?_ ?_) <;> intro _)
      | ((with_reducible refine BIF.s ?_ ?_) <;> intro _)
      | (with_reducible refine NEXTK.normal ?_)
      | (with_reducible refine NEXTK.ret ?_)
      | (with_reducible refine NEXTK.exit ?_)
      | (with_reducible refine SEQ.plain ?_)
      | (with_reducible refine hK _ _ ?_)
      | ((with_reducible refine RUNL.agg (fun _ => ?_) ?_); (focus kernel_rfl))
      | (with_reducible refine RUNL.run ?_)
      | ((with_reducible refine AR.ok ?_ ?_); exact ⟨by first | omega | (dsimp only; omega), by first | omega | (dsimp only; omega)⟩)
      | (with_reducible refine AR.wr ?_)
      | ((with_reducible intro w3 e3); try have z3 := cutLe e3)
      | ((with_reducible intro h3); have h4 := Nat.le_of_lt h3; clear h4)))
    all_goals first | (intro hw; refine ⟨?_, hw⟩; rw [waitAt_bad (.inr hi)]; simp_all [resV]; done) | (exfalso; omega)
  · cases ho : areO xs with
    | false =>
      repeat (any_goals (
        conv => whnf
        first
        | ((with_reducible refine callF (g := 54) ?_ ?_); kernel_rfl; refine ⟨_, orderAt_c _ _ _ xs id _ (by repeat (first | assumption | refine Row.e0 ?_ (by assumption))) hn hm, ?_⟩; intro w4 e4; have z4 := cutLe e4)
        | ((with_reducible refine callF (g := 28) ?_ ?_); kernel_rfl; refine ⟨_, AreOrders_c _ _ _ xs _ (by repeat (first | assumption | refine Row.e0 ?_ (by assumption))) hn hm, ?_⟩; intro w4 e4; have z4 := cutLe e4)
        | ((with_reducible refine BIF.s (fun h => absurd h ?_) (fun _ => ?_)); focus (first | (simp; done) | (simp; omega)))
        | ((with_reducible refine BIF.s (fun _ => ?_) (fun h => absurd h ?_)); rotate_left; focus (first | (simp; done) | (simp; omega)))
        | ((with_reducible refine BIF.dec ?_ ?_) <;> intro _)
        | ((with_reducible refine BIF.s ?_ ?_) <;> intro _)
        | (with_reducible refine NEXTK.normal ?_)
        | (with_reducible refine NEXTK.ret ?_)
        | (with_reducible refine NEXTK.exit ?_)
        | (with_reducible refine SEQ.plain ?_)
        | (with_reducible refine hK _ _ ?_)
        | ((with_reducible refine RUNL.agg (fun _ => ?_) ?_); (focus kernel_rfl))
        | (with_reducible refine RUNL.run ?_)
        | ((with_reducible refine AR.ok ?_ ?_); exact ⟨by first | omega | (dsimp only; omega), by first | omega | (dsimp only; omega)⟩)
        | (with_reducible refine AR.wr ?_)
        | ((with_reducible intro w3 e3); try have z3 := cutLe e3)
        | ((with_reducible intro h3); have h4 := Nat.le_of_lt h3; clear h4)))
      intro hw
      refine ⟨?_, hw⟩
      rw [waitAt_bad (.inl ho)]; simp_all [resV]
    | true =>
      have his := hr.isSome (by simp; omega)
      repeat (any_goals (
        conv => whnf
        first
        | ((with_reducible refine callF (g := 54) ?_ ?_); kernel_rfl; refine ⟨_, orderAt_c _ _ _ xs id _ (by repeat (first | assumption | refine Row.e0 ?_ (by assumption))) hn hm, ?_⟩; intro w4 e4; have z4 := cutLe e4)
        | ((with_reducible refine callF (g := 28) ?_ ?_); kernel_rfl; refine ⟨_, AreOrders_c _ _ _ xs _ (by repeat (first | assumption | refine Row.e0 ?_ (by assumption))) hn hm, ?_⟩; intro w4 e4; have z4 := cutLe e4)
        | ((with_reducible refine BIF.s (fun h => absurd h ?_) (fun _ => ?_)); focus (first | (simp; done) | (simp; omega)))
        | ((with_reducible refine BIF.s (fun _ => ?_) (fun h => absurd h ?_)); rotate_left; focus (first | (simp; done) | (simp; omega)))
        | ((with_reducible refine OBL.mk ?_ (fun _ => ?_)); exact ⟨by omega, by omega, his⟩)
        | ((with_reducible refine ELD.at k hr ?_ ?_ hk (fun x' hx' => ?_)); exact mAddr_Non _; omega; obtain rfl : x = x' := by (rw [hx] at hx'; exact Option.some.inj hx'))
        | ((with_reducible refine callF (g := 27) ?_ ?_); kernel_rfl; refine ⟨_, waits_c _ _, ?_⟩; intro w4 e4; have z4 := cutLe e4)
        | ((with_reducible refine BIF.dec ?_ ?_) <;> intro _)
        | ((with_reducible refine BIF.s ?_ ?_) <;> intro _)
        | (with_reducible refine NEXTK.normal ?_)
        | (with_reducible refine NEXTK.ret ?_)
        | (with_reducible refine NEXTK.exit ?_)
        | (with_reducible refine SEQ.plain ?_)
        | (with_reducible refine hK _ _ ?_)
        | ((with_reducible refine RUNL.agg (fun _ => ?_) ?_); (focus kernel_rfl))
        | (with_reducible refine RUNL.run ?_)
        | ((with_reducible refine AR.ok ?_ ?_); exact ⟨by first | omega | (dsimp only; omega), by first | omega | (dsimp only; omega)⟩)
        | (with_reducible refine AR.wr ?_)
        | ((with_reducible intro w3 e3); try have z3 := cutLe e3)
        | ((with_reducible intro h3); have h4 := Nat.le_of_lt h3; clear h4)))
      all_goals
        intro hw
        refine ⟨?_, hw⟩
        rw [waitAt_good ho hi hx]; simp_all [resV]

end Go.Proofs.YtlhlbgnhnkfmgaaDoor

/- The day on which an order is ready. -/
import Derived.Test.YtlhlbgnhnkfmgaaRows
import Derived.Test.YtlhlbgnhnkfmgaaOrders4
namespace Go.Proofs.Ytlhlbgnhnkfmgaa
open Go Go.X Go.Proofs Go.ChangeShapes Go.WideShapes Go.ChangeAt Go.RowKit
open Go.ChangeMaps (open_string shut_string)
set_option maxHeartbeats 1000000
set_option maxRecDepth 20000
set_option linter.unusedVariables false
set_option linter.unusedSimpArgs false
def waitAt (xs : List Ord) (id : Int) : Bool := areO xs && decide (0 ≤ idAt xs id) && decide ((xs.getD (idAt xs id).toNat default).fReady = -1)
theorem waitAt_bad {xs : List Ord} {id : Int} (h : areO xs = false ∨ idAt xs id = -1) : waitAt xs id = false := by
  unfold waitAt
  rcases h with h | h <;> simp [h]
theorem waitAt_good {xs : List Ord} {id : Int} {k : Nat} {x : Ord} (h : areO xs = true) (hk : idAt xs id = k) (hx : xs[k]? = some x) : waitAt xs id = decide (x.fReady = -1) := by
  unfold waitAt
  simp [h, hk, hx]
theorem waitsAt_c (a : Option Addr) (n c : Nat) (xs : List Ord) (id : Int) (w : World) (hr : Row w a 5 (xs.map encOrd)) (hn : xs.length = n) (hm : n ≤ 4611686018427387904) :
    Calls Try.prog 32 #[.slice a n c, .int .i64 id] w fun e w' => e = .returned (.tuple #[.int .i64 (idAt xs id), .bool (waitAt xs id)]) ∧ E0 w w' := by
  refine enterK Non 24 Try.func32 rfl rfl rfl fun K hK => ?_
  rcases idAt_spec xs id with hi | ⟨k, x, hi, hk, hx, hid⟩
  · repeat (any_goals (
      conv => whnf
      first
      | ((with_reducible refine callF (g := 36) ?_ ?_); kernel_rfl; refine ⟨_, orderAt_c _ _ _ xs id _ (by repeat (first | assumption | refine Row.e0 ?_ (by assumption))) hn hm, ?_⟩; intro w4 e4; have z4 := cutLe e4)
      | ((with_reducible refine callF (g := 22) ?_ ?_); kernel_rfl; refine ⟨_, AreOrders_c _ _ _ xs _ (by repeat (first | assumption | refine Row.e0 ?_ (by assumption))) hn hm, ?_⟩; intro w4 e4; have z4 := cutLe e4)
      | ((with_reducible refine BIF.dec ?_ ?_) <;> intro _)
      | ((with_reducible refine BIF.s ?_ ?_) <;> intro _)
      | (with_reducible refine NEXTK.normal ?_)
      | (with_reducible refine NEXTK.ret ?_)
      | (with_reducible refine NEXTK.exit ?_)
      | (with_reducible refine SEQ.plain ?_)
      | (with_reducible refine hK _ _ ?_)
      | ((with_reducible refine RUNL.agg (fun _ => ?_) ?_); (focus kernel_rfl))
      | (with_reducible refine RUNL.run ?_)
      | ((with_reducible refine AR.ok ?_ ?_); exact ⟨by first | omega | (dsimp only; omega), by first | omega | (dsimp only; omega)⟩)
      | (with_reducible refine AR.wr ?_)
      | ((with_reducible intro w3 e3); try have z3 := cutLe e3)
      | ((with_reducible intro h3); have h4 := Nat.le_of_lt h3; clear h4)))
    all_goals first | (intro hw; refine ⟨?_, hw⟩; rw [waitAt_bad (.inr hi)]; simp_all [resV]; done) | (exfalso; omega)
  · cases ho : areO xs with
    | false =>
      repeat (any_goals (
        conv => whnf
        first
        | ((with_reducible refine callF (g := 36) ?_ ?_); kernel_rfl; refine ⟨_, orderAt_c _ _ _ xs id _ (by repeat (first | assumption | refine Row.e0 ?_ (by assumption))) hn hm, ?_⟩; intro w4 e4; have z4 := cutLe e4)
        | ((with_reducible refine callF (g := 22) ?_ ?_); kernel_rfl; refine ⟨_, AreOrders_c _ _ _ xs _ (by repeat (first | assumption | refine Row.e0 ?_ (by assumption))) hn hm, ?_⟩; intro w4 e4; have z4 := cutLe e4)
        | ((with_reducible refine BIF.s (fun h => absurd h ?_) (fun _ => ?_)); focus (first | (simp; done) | (simp; omega)))
        | ((with_reducible refine BIF.s (fun _ => ?_) (fun h => absurd h ?_)); rotate_left; focus (first | (simp; done) | (simp; omega)))
        | ((with_reducible refine BIF.dec ?_ ?_) <;> intro _)
        | ((with_reducible refine BIF.s ?_ ?_) <;> intro _)
        | (with_reducible refine NEXTK.normal ?_)
        | (with_reducible refine NEXTK.ret ?_)
        | (with_reducible refine NEXTK.exit ?_)
        | (with_reducible refine SEQ.plain ?_)
        | (with_reducible refine hK _ _ ?_)
        | ((with_reducible refine RUNL.agg (fun _ => ?_) ?_); (focus kernel_rfl))
        | (with_reducible refine RUNL.run ?_)
        | ((with_reducible refine AR.ok ?_ ?_); exact ⟨by first | omega | (dsimp only; omega), by first | omega | (dsimp only; omega)⟩)
        | (with_reducible refine AR.wr ?_)
        | ((with_reducible intro w3 e3); try have z3 := cutLe e3)
        | ((with_reducible intro h3); have h4 := Nat.le_of_lt h3; clear h4)))
      intro hw
      refine ⟨?_, hw⟩
      rw [waitAt_bad (.inl ho)]; simp_all [resV]
    | true =>
      have his := hr.isSome (by simp; omega)
      repeat (any_goals (
        conv => whnf
        first
        | ((with_reducible refine callF (g := 36) ?_ ?_); kernel_rfl; refine ⟨_, orderAt_c _ _ _ xs id _ (by repeat (first | assumption | refine Row.e0 ?_ (by assumption))) hn hm, ?_⟩; intro w4 e4; have z4 := cutLe e4)
        | ((with_reducible refine callF (g := 22) ?_ ?_); kernel_rfl; refine ⟨_, AreOrders_c _ _ _ xs _ (by repeat (first | assumption | refine Row.e0 ?_ (by assumption))) hn hm, ?_⟩; intro w4 e4; have z4 := cutLe e4)
        | ((with_reducible refine BIF.s (fun h => absurd h ?_) (fun _ => ?_)); focus (first | (simp; done) | (simp; omega)))
        | ((with_reducible refine BIF.s (fun _ => ?_) (fun h => absurd h ?_)); rotate_left; focus (first | (simp; done) | (simp; omega)))
        | ((with_reducible refine OBL.mk ?_ (fun _ => ?_)); exact ⟨by omega, by omega, his⟩)
        | ((with_reducible refine ELD.at k hr ?_ ?_ hk (fun x' hx' => ?_)); exact mAddr_Non _; omega; obtain rfl : x = x' := by (rw [hx] at hx'; exact Option.some.inj hx'))
        | ((with_reducible refine callF (g := 47) ?_ ?_); kernel_rfl; refine ⟨_, waits_c _ _, ?_⟩; intro w4 e4; have z4 := cutLe e4)
        | ((with_reducible refine BIF.dec ?_ ?_) <;> intro _)
        | ((with_reducible refine BIF.s ?_ ?_) <;> intro _)
        | (with_reducible refine NEXTK.normal ?_)
        | (with_reducible refine NEXTK.ret ?_)
        | (with_reducible refine NEXTK.exit ?_)
        | (with_reducible refine SEQ.plain ?_)
        | (with_reducible refine hK _ _ ?_)
        | ((with_reducible refine RUNL.agg (fun _ => ?_) ?_); (focus kernel_rfl))
        | (with_reducible refine RUNL.run ?_)
        | ((with_reducible refine AR.ok ?_ ?_); exact ⟨by first | omega | (dsimp only; omega), by first | omega | (dsimp only; omega)⟩)
        | (with_reducible refine AR.wr ?_)
        | ((with_reducible intro w3 e3); try have z3 := cutLe e3)
        | ((with_reducible intro h3); have h4 := Nat.le_of_lt h3; clear h4)))
      all_goals
        intro hw
        refine ⟨?_, hw⟩
        rw [waitAt_good ho hi hx]; simp_all [resV]

end Go.Proofs.Ytlhlbgnhnkfmgaa

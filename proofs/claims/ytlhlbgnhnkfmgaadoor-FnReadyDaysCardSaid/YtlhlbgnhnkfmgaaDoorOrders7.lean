/- ReadyDay. -/
import Derived.Test.YtlhlbgnhnkfmgaaDoorRows
import Derived.Test.YtlhlbgnhnkfmgaaDoorOrders6
namespace Go.Proofs.YtlhlbgnhnkfmgaaDoor
open Go Go.X Go.Proofs Go.ChangeShapes Go.WideShapes Go.ChangeAt Go.RowKit
open Go.ChangeMaps (open_string shut_string)
set_option maxHeartbeats 1000000
set_option maxRecDepth 20000
set_option linter.unusedVariables false
set_option linter.unusedSimpArgs false
def readyP (xs : List Ord) (id day rate : Int) : Int × Bool :=
  if waitAt xs id && inB day 0 4000 && inB rate 1 100 && inB (readyD xs (idAt xs id).toNat day rate) 0 4000 then (readyD xs (idAt xs id).toNat day rate, true) else (0, false)
theorem readyP_bad {xs : List Ord} {id day rate : Int} (h : waitAt xs id = false ∨ inB day 0 4000 = false ∨ inB rate 1 100 = false) : readyP xs id day rate = (0, false) := by
  unfold readyP
  rcases h with h | h | h <;> simp [h]
theorem readyP_good {xs : List Ord} {id day rate : Int} {k : Nat} (h : waitAt xs id = true) (hd : inB day 0 4000 = true) (ht : inB rate 1 100 = true) (hk : idAt xs id = k) :
    readyP xs id day rate = if inB (readyD xs k day rate) 0 4000 then (readyD xs k day rate, true) else (0, false) := by
  unfold readyP
  simp [h, hd, ht, hk]
theorem ReadyDay_c (a : Option Addr) (n c : Nat) (xs : List Ord) (id day rate : Int) (w : World) (hr : Row w a 5 (xs.map encOrd)) (hn : xs.length = n) (hm : n ≤ 4611686018427387904) (hc : n ≤ c ∧ c < 9223372036854775808) :
    Calls Tryd.prog 14 #[.slice a n c, .int .i64 id, .int .i64 day, .int .i64 rate] w fun e w' => e = .returned (.tuple #[.int .i64 (readyP xs id day rate).1, .bool (readyP xs id day rate).2]) ∧ E0 w w' := by
  refine enterK Non 44 Tryd.func14 rfl rfl rfl fun K hK => ?_
  by_cases hall : waitAt xs id = true ∧ inB day 0 4000 = true ∧ inB rate 1 100 = true
  · obtain ⟨hw, hd, ht⟩ := hall
    rcases idAt_spec xs id with hi | ⟨k, x, hi, hk, hx, hid⟩
    · rw [waitAt_bad (.inr hi)] at hw; cases hw
    · have ho : areO xs = true := by
        cases ho : areO xs with
        | false => rw [waitAt_bad (.inl ho)] at hw; cases hw
        | true => rfl
      have hw2 := hw
      rw [waitAt_good ho hi hx] at hw2
      have hw3 : x.fReady = -1 := by simpa using hw2
      have hp := areO_pages ho
      have hd2 := inB_iff.1 hd
      have ht2 := inB_iff.1 ht
      have his := hr.isSome (by simp; omega)
      repeat (any_goals (
        conv => whnf
        first
        | ((with_reducible refine callF (g := 41) ?_ ?_); kernel_rfl; refine ⟨_, waitsAt_c _ _ _ xs id _ (by repeat (first | assumption | refine Row.e0 ?_ (by assumption))) hn hm, ?_⟩; intro w4 e4; have z4 := cutLe e4)
        | ((with_reducible refine callF (g := 30) ?_ ?_); kernel_rfl; refine ⟨_, isRate_c _ _, ?_⟩; intro w4 e4; have z4 := cutLe e4)
        | ((with_reducible refine callF (g := 43) ?_ ?_); kernel_rfl; refine ⟨_, readyDay_c _ _ _ k xs _ _ _ x (by repeat (first | assumption | refine Row.e0 ?_ (by assumption))) hn hc hp hx hw3 _ hi hd2 ht2, ?_⟩; intro w4 e4; have z4 := cutLe e4)
        | ((with_reducible refine callF (g := 42) ?_ ?_); kernel_rfl; refine ⟨_, isDay_c _ _, ?_⟩; intro w4 e4; have z4 := cutLe e4)
        | ((with_reducible refine BIF.s (fun h => absurd h ?_) (fun _ => ?_)); focus (first | (simp; done) | (simp; omega)))
        | ((with_reducible refine BIF.s (fun _ => ?_) (fun h => absurd h ?_)); rotate_left; focus (first | (simp; done) | (simp; omega)))
        | ((with_reducible refine BIF.dec ?_ ?_) <;> intro _)
        | ((with_reducible refine BIF.s ?_ ?_) <;> intro _)
        | (with_reducible refine NEXTK.normal ?_)
        | (with_reducible refine NEXTK.ret ?_)
        | (with_reducible refine NEXTK.exit ?_)
        | (with_reducible refine SEQ.plain ?_)
        | (with_reducible refine hK _ _ ?_)
        | ((with_reducible refine RUNL.agg (fun _ => ?_) ?_); (focus kernel_rfl))
        | (with_reducible refine RUNL.run ?_)
        | ((with_reducible refine AR.ok ?_ ?_); exact ⟨by first | omega | (dsimp only; omega), by first | omega | (dsimp only; omega)⟩)
        | (with_reducible refine AR.wr ?_)
        | ((with_reducible intro w3 e3); try have z3 := cutLe e3)
        | ((with_reducible intro h3); have h4 := Nat.le_of_lt h3; clear h4)))
      all_goals first
        | (exfalso; simp_all; done)
        | (intro hw'
           refine ⟨?_, hw'⟩
           rw [readyP_good hw hd ht hi]; simp_all [resV])
  · repeat (any_goals (
      conv => whnf
      first
      | ((with_reducible refine callF (g := 41) ?_ ?_); kernel_rfl; refine ⟨_, waitsAt_c _ _ _ xs id _ (by repeat (first | assumption | refine Row.e0 ?_ (by assumption))) hn hm, ?_⟩; intro w4 e4; have z4 := cutLe e4)
      | ((with_reducible refine callF (g := 30) ?_ ?_); kernel_rfl; refine ⟨_, isRate_c _ _, ?_⟩; intro w4 e4; have z4 := cutLe e4)
      | ((with_reducible refine callF (g := 42) ?_ ?_); kernel_rfl; refine ⟨_, isDay_c _ _, ?_⟩; intro w4 e4; have z4 := cutLe e4)
      | ((exfalso; simp_all; done))
      | ((with_reducible refine BIF.dec ?_ ?_) <;> intro _)
      | ((with_reducible refine BIF.s ?_ ?_) <;> intro _)
      | (with_reducible refine NEXTK.normal ?_)
      | (with_reducible refine NEXTK.ret ?_)
      | (with_reducible refine NEXTK.exit ?_)
      | (with_reducible refine SEQ.plain ?_)
      | (with_reducible refine hK _ _ ?_)
      | ((with_reducible refine RUNL.agg (fun _ => ?_) ?_); (focus kernel_rfl))
      | (with_reducible refine RUNL.run ?_)
      | ((with_reducible refine AR.ok ?_ ?_); exact ⟨by first | omega | (dsimp only; omega), by first | omega | (dsimp only; omega)⟩)
      | (with_reducible refine AR.wr ?_)
      | ((with_reducible intro w3 e3); try have z3 := cutLe e3)
      | ((with_reducible intro h3); have h4 := Nat.le_of_lt h3; clear h4)))
    all_goals
      intro hw'
      refine ⟨?_, hw'⟩
      rw [readyP_bad (by simp_all)]; rfl
theorem ReadyDayS_c (a : Option Addr) (n c : Nat) (xs : List Ord) (id day rate : Int) (w : World) (hr : Row w a 5 (xs.map encOrd)) (hn : xs.length = n) (hm : n ≤ 4611686018427387904) (hc : n ≤ c ∧ c < 9223372036854775808) :
    Calls Tryd.prog 15 #[.slice a n c, .int .i64 id, .int .i64 day, .int .i64 rate] w fun e w' => e = .returned (.tuple #[.int .i64 (readyP xs id day rate).1, .bool (readyP xs id day rate).2]) ∧ E0 w w' := by
  refine enterK Non 49 Tryd.func15 rfl rfl rfl fun K hK => ?_
  rcases idAt_spec xs id with hi | ⟨k, x, hi, hk, hx, hid⟩
  · repeat (any_goals (
      conv => whnf
      first
      | ((with_reducible refine callF (g := 44) ?_ ?_); kernel_rfl; refine ⟨_, l28Find_c _ _ _ xs id _ (by repeat (first | assumption | refine Row.e0 ?_ (by assumption))) hn hm, ?_⟩; intro w4 e4; have z4 := cutLe e4)
      | ((with_reducible refine callF (g := 32) ?_ ?_); kernel_rfl; refine ⟨_, l28Good_c _ _ _ xs _ (by repeat (first | assumption | refine Row.e0 ?_ (by assumption))) hn hm, ?_⟩; intro w4 e4; have z4 := cutLe e4)
      | ((with_reducible refine callF (g := 33) ?_ ?_); kernel_rfl; refine ⟨_, l2Day_c _ _, ?_⟩; intro w4 e4; have z4 := cutLe e4)
      | ((with_reducible refine callF (g := 36) ?_ ?_); kernel_rfl; refine ⟨_, l28Rate_c _ _, ?_⟩; intro w4 e4; have z4 := cutLe e4)
      | ((exfalso; omega))
      | ((with_reducible refine BIF.dec ?_ ?_) <;> intro _)
      | ((with_reducible refine BIF.s ?_ ?_) <;> intro _)
      | (with_reducible refine NEXTK.normal ?_)
      | (with_reducible refine NEXTK.ret ?_)
      | (with_reducible refine NEXTK.exit ?_)
      | (with_reducible refine SEQ.plain ?_)
      | (with_reducible refine hK _ _ ?_)
      | ((with_reducible refine RUNL.agg (fun _ => ?_) ?_); (focus kernel_rfl))
      | (with_reducible refine RUNL.run ?_)
      | ((with_reducible refine AR.ok ?_ ?_); exact ⟨by first | omega | (dsimp only; omega), by first | omega | (dsimp only; omega)⟩)
      | (with_reducible refine AR.wr ?_)
      | ((with_reducible intro w3 e3); try have z3 := cutLe e3)
      | ((with_reducible intro h3); have h4 := Nat.le_of_lt h3; clear h4)))
    all_goals
      intro hw'
      refine ⟨?_, hw'⟩
      rw [readyP_bad (.inl (waitAt_bad (.inr hi)))]; rfl
  · have his := hr.isSome (by simp; omega)
    by_cases hall : areO xs = true ∧ inB day 0 4000 = true ∧ inB rate 1 100 = true ∧ x.fReady = -1
    · obtain ⟨ho, hd, ht, hw3⟩ := hall
      have hw := waitAt_good ho hi hx
      rw [decide_eq_true hw3] at hw
      have hp := areO_pages ho
      have hd2 := inB_iff.1 hd
      have ht2 := inB_iff.1 ht
      repeat (any_goals (
        conv => whnf
        first
        | ((with_reducible refine callF (g := 44) ?_ ?_); kernel_rfl; refine ⟨_, l28Find_c _ _ _ xs id _ (by repeat (first | assumption | refine Row.e0 ?_ (by assumption))) hn hm, ?_⟩; intro w4 e4; have z4 := cutLe e4)
        | ((with_reducible refine callF (g := 32) ?_ ?_); kernel_rfl; refine ⟨_, l28Good_c _ _ _ xs _ (by repeat (first | assumption | refine Row.e0 ?_ (by assumption))) hn hm, ?_⟩; intro w4 e4; have z4 := cutLe e4)
        | ((with_reducible refine callF (g := 36) ?_ ?_); kernel_rfl; refine ⟨_, l28Rate_c _ _, ?_⟩; intro w4 e4; have z4 := cutLe e4)
        | ((with_reducible refine callF (g := 45) ?_ ?_); kernel_rfl; refine ⟨_, l28Ready_c _ _ _ k xs _ _ _ x (by repeat (first | assumption | refine Row.e0 ?_ (by assumption))) hn hc hp hx hw3 _ hi hd2 ht2, ?_⟩; intro w4 e4; have z4 := cutLe e4)
        | ((with_reducible refine callF (g := 33) ?_ ?_); kernel_rfl; refine ⟨_, l2Day_c _ _, ?_⟩; intro w4 e4; have z4 := cutLe e4)
        | ((with_reducible refine OBL.mk ?_ (fun _ => ?_)); exact ⟨by omega, by omega, his⟩)
        | ((with_reducible refine ELD.at k hr ?_ ?_ hk (fun x' hx' => ?_)); exact mAddr_Non _; omega; obtain rfl : x = x' := by (rw [hx] at hx'; exact Option.some.inj hx'))
        | ((with_reducible refine BIF.s (fun h => absurd h ?_) (fun _ => ?_)); focus (first | (simp; done) | (simp; omega)))
        | ((with_reducible refine BIF.s (fun _ => ?_) (fun h => absurd h ?_)); rotate_left; focus (first | (simp; done) | (simp; omega)))
        | ((with_reducible refine BIF.dec ?_ ?_) <;> intro _)
        | ((with_reducible refine BIF.s ?_ ?_) <;> intro _)
        | (with_reducible refine NEXTK.normal ?_)
        | (with_reducible refine NEXTK.ret ?_)
        | (with_reducible refine NEXTK.exit ?_)
        | (with_reducible refine SEQ.plain ?_)
        | (with_reducible refine hK _ _ ?_)
        | ((with_reducible refine RUNL.agg (fun _ => ?_) ?_); (focus kernel_rfl))
        | (with_reducible refine RUNL.run ?_)
        | ((with_reducible refine AR.ok ?_ ?_); exact ⟨by first | omega | (dsimp only; omega), by first | omega | (dsimp only; omega)⟩)
        | (with_reducible refine AR.wr ?_)
        | ((with_reducible intro w3 e3); try have z3 := cutLe e3)
        | ((with_reducible intro h3); have h4 := Nat.le_of_lt h3; clear h4)))
      all_goals first
        | (exfalso; simp_all; done)
        | (intro hw'
           refine ⟨?_, hw'⟩
           rw [readyP_good hw hd ht hi]; simp_all [resV])
    · have hbad : readyP xs id day rate = (0, false) := by
        refine readyP_bad ?_
        by_cases ho : areO xs = true
        · rw [waitAt_good ho hi hx]
          simp_all
          by_cases hd : inB day 0 4000 = true <;> by_cases ht : inB rate 1 100 = true <;> simp_all
        · exact .inl (waitAt_bad (.inl (by simpa using ho)))
      repeat (any_goals (
        conv => whnf
        first
        | ((with_reducible refine callF (g := 44) ?_ ?_); kernel_rfl; refine ⟨_, l28Find_c _ _ _ xs id _ (by repeat (first | assumption | refine Row.e0 ?_ (by assumption))) hn hm, ?_⟩; intro w4 e4; have z4 := cutLe e4)
        | ((with_reducible refine callF (g := 32) ?_ ?_); kernel_rfl; refine ⟨_, l28Good_c _ _ _ xs _ (by repeat (first | assumption | refine Row.e0 ?_ (by assumption))) hn hm, ?_⟩; intro w4 e4; have z4 := cutLe e4)
        | ((with_reducible refine callF (g := 36) ?_ ?_); kernel_rfl; refine ⟨_, l28Rate_c _ _, ?_⟩; intro w4 e4; have z4 := cutLe e4)
        | ((with_reducible refine callF (g := 33) ?_ ?_); kernel_rfl; refine ⟨_, l2Day_c _ _, ?_⟩; intro w4 e4; have z4 := cutLe e4)
        | ((with_reducible refine OBL.mk ?_ (fun _ => ?_)); exact ⟨by omega, by omega, his⟩)
        | ((with_reducible refine ELD.at k hr ?_ ?_ hk (fun x' hx' => ?_)); exact mAddr_Non _; omega; obtain rfl : x = x' := by (rw [hx] at hx'; exact Option.some.inj hx'))
        | ((exfalso; simp_all; done))
        | ((with_reducible refine BIF.dec ?_ ?_) <;> intro _)
        | ((with_reducible refine BIF.s ?_ ?_) <;> intro _)
        | (with_reducible refine NEXTK.normal ?_)
        | (with_reducible refine NEXTK.ret ?_)
        | (with_reducible refine NEXTK.exit ?_)
        | (with_reducible refine SEQ.plain ?_)
        | (with_reducible refine hK _ _ ?_)
        | ((with_reducible refine RUNL.agg (fun _ => ?_) ?_); (focus kernel_rfl))
        | (with_reducible refine RUNL.run ?_)
        | ((with_reducible refine AR.ok ?_ ?_); exact ⟨by first | omega | (dsimp only; omega), by first | omega | (dsimp only; omega)⟩)
        | (with_reducible refine AR.wr ?_)
        | ((with_reducible intro w3 e3); try have z3 := cutLe e3)
        | ((with_reducible intro h3); have h4 := Nat.le_of_lt h3; clear h4)))
      all_goals
        intro hw'
        refine ⟨?_, hw'⟩
        rw [hbad]; rfl

end Go.Proofs.YtlhlbgnhnkfmgaaDoor

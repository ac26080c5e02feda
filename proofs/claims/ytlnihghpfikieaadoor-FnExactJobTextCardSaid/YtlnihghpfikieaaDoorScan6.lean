/- IsScanJob. -/
import Derived.Test.YtlnihghpfikieaaDoorRows
import Derived.Test.YtlnihghpfikieaaDoorScan5
namespace Go.Proofs.YtlnihghpfikieaaDoor
open Go Go.X Go.Proofs Go.ChangeShapes Go.WideShapes Go.ChangeAt Go.RowKit
open Go.ChangeMaps (open_string shut_string)
set_option maxHeartbeats 1000000
set_option maxRecDepth 20000
set_option linter.unusedVariables false
set_option linter.unusedSimpArgs false
theorem outB_c (x : Int) (w : World) : Calls Tryd.prog 22 #[.int .i64 x] w fun e w' => e = .returned (.bool (!inB x 0 100)) ∧ E0 w w' := by
  refine enterK Non 6 Tryd.func22 rfl rfl rfl fun K hK => ?_
  repeat (any_goals (
    conv => whnf
    first
    | ((with_reducible refine callF (g := 19) ?_ ?_); kernel_rfl; refine ⟨_, within_c _ _ _ _, ?_⟩; intro w4 e4; have z4 := cutLe e4)
    | ((with_reducible refine BIF.dec ?_ ?_) <;> intro _)
    | ((with_reducible refine BIF.s ?_ ?_) <;> intro _)
    | (with_reducible refine NEXTK.normal ?_)
    | (with_reducible refine NEXTK.ret ?_)
    | (with_reducible refine NEXTK.exit ?_)
    | (with_reducible refine SEQ.plain ?_)
    | (with_reducible refine hK _ _ ?_)
    | ((with_reducible refine RUNL.agg (fun _ => ?_) ?_); (focus kernel_rfl))
    | (with_reducible refine RUNL.run ?_)
    | ((with_reducible refine AR.ok ?_ ?_); exact ⟨by first | omega | (dsimp only; omega), by first | omega | (dsimp only; omega)⟩)
    | (with_reducible refine AR.wr ?_)
    | ((with_reducible intro w3 e3); try have z3 := cutLe e3)
    | ((with_reducible intro h3); have h4 := Nat.le_of_lt h3; clear h4)))
  all_goals
    intro hx
    refine ⟨?_, hx⟩
    first | rfl | (simp_all [resV]; done)
theorem IsScanJob_c (j : Job) (a : Option Addr) (n c : Nat) (w : World) (hr : Row w a 1 (j.fTiles.map encI)) (hn : j.fTiles.length = n) (hm : n ≤ 4611686018427387904) (hc : n ≤ c ∧ c < 9223372036854775808) :
    Calls Tryd.prog 13 #[.agg (encJob j a n c).toArray] w fun e w' => e = .returned (.bool (goodB j)) ∧ E0 w w' := by
  have htl := tkI_le j.fTiles
  refine enterK Non 77 Tryd.func13 rfl rfl rfl fun K hK => ?_
  have hall : j.fTiles.all (fun x => inB x 0 100) = !(j.fTiles.any fun x => !inB x 0 100) := by
    rw [List.not_any_eq_all_not]
    simp
  by_cases h0 : inB n 1 8 = true ∧ tailZ j.fTiles = true ∧ j.fNext = tkI j.fTiles ∧ inB j.fFails 0 3 = true ∧ j.fSize = IntKind.i64.wrap (10 * wsI j.fTiles)
  · obtain ⟨g1, g2, g3, g4, g5⟩ := h0
    have h4' := inB_iff.1 g4
    cases h6 : j.fTiles.any (fun x => !inB x 0 100) with
    | true =>
      have hgb : goodB j = false := by simp [goodB, hall, h6]
      repeat (any_goals (
        conv => whnf
        first
        | ((with_reducible refine callF (g := 18) ?_ ?_); kernel_rfl; refine ⟨_, taken_c _ _ _ j.fTiles _ (by repeat (first | assumption | refine Row.e0 ?_ (by assumption))) hn hm hc, ?_⟩; intro w4 e4; have z4 := cutLe e4)
        | ((with_reducible refine DRAW.quietE ?_ ?_ ?_); kernel_rfl; kernel_rfl)
        | ((with_reducible refine callQ (g := 19) ?_ ?_); kernel_rfl; refine ⟨_, fun w' _ => within_c _ _ _ w', ?_⟩)
        | ((with_reducible refine callQ (g := 20) ?_ ?_); kernel_rfl; refine ⟨_, fun w' hE => sum_c _ _ _ j.fTiles w' (Row.e0 (by repeat (first | assumption | refine Row.e0 ?_ (by assumption))) hE) hn hm, ?_⟩)
        | ((with_reducible refine callF (g := 21) ?_ ?_); kernel_rfl; refine ⟨_, ContainsFuncI_c (fun x => !inB x 0 100) _ _ _ j.fTiles _ _ _ (by repeat (first | assumption | refine Row.e0 ?_ (by assumption))) hn hm (by kernel_rfl) (fun x _ w' _ => outB_c x w'), ?_⟩; intro w4 e4; have z4 := cutLe e4)
        | ((exfalso; clear hK; simp_all; done))
        | ((with_reducible refine BIF.dec ?_ ?_) <;> intro _)
        | ((with_reducible refine BIF.s ?_ ?_) <;> intro _)
        | (with_reducible refine NEXTK.normal ?_)
        | (with_reducible refine NEXTK.ret ?_)
        | (with_reducible refine NEXTK.exit ?_)
        | (with_reducible refine SEQ.plain ?_)
        | (with_reducible refine hK _ _ ?_)
        | ((with_reducible refine RUNL.agg (fun _ => ?_) ?_); (focus kernel_rfl))
        | (with_reducible refine RUNL.run ?_)
        | ((with_reducible refine AR.ok ?_ ?_); exact ⟨by first | omega | (dsimp only; omega), by first | omega | (dsimp only; omega)⟩)
        | (with_reducible refine AR.wr ?_)
        | ((with_reducible intro w3 e3); try have z3 := cutLe e3)
        | ((with_reducible intro h3); have h4 := Nat.le_of_lt h3; clear h4)))
      all_goals
        intro hx'
        refine ⟨?_, hx'⟩
        rw [hgb]; rfl
    | false =>
      have hgb : goodB j = (inB j.fState 0 3 && stB j) := by
        rw [← hn] at g1
        simp [goodB, hall, h6, g1, g2, g3, g4, g5]
      repeat (any_goals (
        conv => whnf
        first
        | ((with_reducible refine callF (g := 18) ?_ ?_); kernel_rfl; refine ⟨_, taken_c _ _ _ j.fTiles _ (by repeat (first | assumption | refine Row.e0 ?_ (by assumption))) hn hm hc, ?_⟩; intro w4 e4; have z4 := cutLe e4)
        | ((with_reducible refine DRAW.quietE ?_ ?_ ?_); kernel_rfl; kernel_rfl)
        | ((with_reducible refine callQ (g := 19) ?_ ?_); kernel_rfl; refine ⟨_, fun w' _ => within_c _ _ _ w', ?_⟩)
        | ((with_reducible refine callQ (g := 20) ?_ ?_); kernel_rfl; refine ⟨_, fun w' hE => sum_c _ _ _ j.fTiles w' (Row.e0 (by repeat (first | assumption | refine Row.e0 ?_ (by assumption))) hE) hn hm, ?_⟩)
        | ((with_reducible refine callF (g := 21) ?_ ?_); kernel_rfl; refine ⟨_, ContainsFuncI_c (fun x => !inB x 0 100) _ _ _ j.fTiles _ _ _ (by repeat (first | assumption | refine Row.e0 ?_ (by assumption))) hn hm (by kernel_rfl) (fun x _ w' _ => outB_c x w'), ?_⟩; intro w4 e4; have z4 := cutLe e4)
        | ((exfalso; clear hK; simp_all; done))
        | ((with_reducible refine BIF.dec ?_ ?_) <;> intro _)
        | ((with_reducible refine BIF.s ?_ ?_) <;> intro _)
        | (with_reducible refine NEXTK.normal ?_)
        | (with_reducible refine NEXTK.ret ?_)
        | (with_reducible refine NEXTK.exit ?_)
        | (with_reducible refine SEQ.plain ?_)
        | (with_reducible refine hK _ _ ?_)
        | ((with_reducible refine RUNL.agg (fun _ => ?_) ?_); (focus kernel_rfl))
        | (with_reducible refine RUNL.run ?_)
        | ((with_reducible refine AR.ok ?_ ?_); exact ⟨by first | omega | (dsimp only; omega), by first | omega | (dsimp only; omega)⟩)
        | (with_reducible refine AR.wr ?_)
        | ((with_reducible intro w3 e3); try have z3 := cutLe e3)
        | ((with_reducible intro h3); have h4 := Nat.le_of_lt h3; clear h4)))
      all_goals
        intro hx'
        refine ⟨?_, hx'⟩
        rw [hgb]
        first
        | (simp_all [stB, resV, inB]; done)
        | (simp_all [stB, resV, inB]; omega)
        | (simp_all [stB, resV, inB]; rfl)
        | (simp_all [stB, resV, inB]; rw [Bool.eq_iff_iff]; simp; done)
        | (simp_all [stB, resV, inB]; rw [Bool.eq_iff_iff]; simp; omega)
  · have hgb : goodB j = false := by
      cases hg : goodB j with
      | false => rfl
      | true =>
        exfalso
        simp only [goodB, Bool.and_eq_true, decide_eq_true_eq] at hg
        rw [hn] at hg
        exact h0 ⟨hg.1.1.1.1.1.1.1, hg.1.1.1.2, hg.1.1.2, hg.1.1.1.1.1.2, hg.1.2⟩
    repeat (any_goals (
      conv => whnf
      first
      | ((with_reducible refine callF (g := 18) ?_ ?_); kernel_rfl; refine ⟨_, taken_c _ _ _ j.fTiles _ (by repeat (first | assumption | refine Row.e0 ?_ (by assumption))) hn hm hc, ?_⟩; intro w4 e4; have z4 := cutLe e4)
      | ((with_reducible refine DRAW.quietE ?_ ?_ ?_); kernel_rfl; kernel_rfl)
      | ((with_reducible refine callQ (g := 19) ?_ ?_); kernel_rfl; refine ⟨_, fun w' _ => within_c _ _ _ w', ?_⟩)
      | ((with_reducible refine callQ (g := 20) ?_ ?_); kernel_rfl; refine ⟨_, fun w' hE => sum_c _ _ _ j.fTiles w' (Row.e0 (by repeat (first | assumption | refine Row.e0 ?_ (by assumption))) hE) hn hm, ?_⟩)
      | ((exfalso; clear hK; simp_all; done))
      | ((with_reducible refine BIF.dec ?_ ?_) <;> intro _)
      | ((with_reducible refine BIF.s ?_ ?_) <;> intro _)
      | (with_reducible refine NEXTK.normal ?_)
      | (with_reducible refine NEXTK.ret ?_)
      | (with_reducible refine NEXTK.exit ?_)
      | (with_reducible refine SEQ.plain ?_)
      | (with_reducible refine hK _ _ ?_)
      | ((with_reducible refine RUNL.agg (fun _ => ?_) ?_); (focus kernel_rfl))
      | (with_reducible refine RUNL.run ?_)
      | ((with_reducible refine AR.ok ?_ ?_); exact ⟨by first | omega | (dsimp only; omega), by first | omega | (dsimp only; omega)⟩)
      | (with_reducible refine AR.wr ?_)
      | ((with_reducible intro w3 e3); try have z3 := cutLe e3)
      | ((with_reducible intro h3); have h4 := Nat.le_of_lt h3; clear h4)))
    all_goals
      intro hx'
      refine ⟨?_, hx'⟩
      rw [hgb]; rfl

end Go.Proofs.YtlnihghpfikieaaDoor

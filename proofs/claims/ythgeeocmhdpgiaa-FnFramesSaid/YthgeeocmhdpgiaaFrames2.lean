/- The width on a day. -/
import Derived.Test.YthgeeocmhdpgiaaRows
import Derived.Test.YthgeeocmhdpgiaaFrames
namespace Go.Proofs.Ythgeeocmhdpgiaa
open Go Go.X Go.Proofs Go.ChangeShapes Go.WideShapes Go.ChangeAt Go.RowKit
open Go.ChangeMaps (open_string shut_string)
set_option maxHeartbeats 1000000
set_option maxRecDepth 20000
set_option linter.unusedVariables false
set_option linter.unusedSimpArgs false
def widthP (xs : List Frm) (wall day : Int) : Int × Bool := if areF xs = true ∧ inB wall 1 4 = true ∧ inB day 0 4000 = true then (wOn xs wall day, true) else (0, false)
theorem WidthOn_c (a : Option Addr) (n c : Nat) (xs : List Frm) (wall day : Int) (w : World) (hr : Row w a 5 (xs.map encFrm)) (hn : xs.length = n) (hm : n ≤ 4611686018427387904) :
    Calls Try.prog 11 #[.slice a n c, .int .i64 wall, .int .i64 day] w fun e w' => e = .returned (.tuple #[.int .i64 (widthP xs wall day).1, .bool (widthP xs wall day).2]) ∧ E0 w w' := by
  refine enterK Non 25 Try.func11 rfl rfl rfl fun K hK => ?_
  repeat (any_goals (
    conv => whnf
    first
    | ((with_reducible refine callF (g := 19) ?_ ?_); kernel_rfl; refine ⟨_, AreFrames_c _ _ _ xs _ (by repeat (first | assumption | refine Row.e0 ?_ (by assumption))) hn hm, ?_⟩; intro w4 e4; have z4 := cutLe e4)
    | ((with_reducible refine callF (g := 27) ?_ ?_); kernel_rfl; refine ⟨_, isHungWall_c _ _, ?_⟩; intro w4 e4; have z4 := cutLe e4)
    | ((with_reducible refine callF (g := 33) ?_ ?_); kernel_rfl; refine ⟨_, isDay_c _ _, ?_⟩; intro w4 e4; have z4 := cutLe e4)
    | ((with_reducible refine callF (g := 34) ?_ ?_); kernel_rfl; refine ⟨_, widthOn_c _ _ _ xs _ _ _ (by repeat (first | assumption | refine Row.e0 ?_ (by assumption))) hn hm, ?_⟩; intro w4 e4; have z4 := cutLe e4)
    | ((with_reducible refine BIF.dec ?_ ?_) <;> intro _)
    | ((with_reducible refine BIF.s ?_ ?_) <;> intro _)
    | (with_reducible refine NEXTK.normal ?_)
    | (with_reducible refine NEXTK.ret ?_)
    | (with_reducible refine NEXTK.exit ?_)
    | (with_reducible refine SEQ.plain ?_)
    | (with_reducible refine hK _ _ ?_)
    | ((with_reducible refine RUNL.agg (fun _ => ?_) ?_); (focus kernel_rfl))
    | (with_reducible refine RUNL.run ?_)
    | ((with_reducible refine AR.ok ?_ ?_); exact ⟨by first | omega | (dsimp only; omega), by first | omega | (dsimp only; omega)⟩)
    | (with_reducible refine AR.wr ?_)
    | ((with_reducible intro w3 e3); try have z3 := cutLe e3)
    | ((with_reducible intro h3); have h4 := Nat.le_of_lt h3; clear h4)))
  all_goals
    intro hx
    refine ⟨?_, hx⟩
    simp_all [widthP, resV]
theorem WidthOnS_c (a : Option Addr) (n c : Nat) (xs : List Frm) (wall day : Int) (w : World) (hr : Row w a 5 (xs.map encFrm)) (hn : xs.length = n) (hm : n ≤ 4611686018427387904) :
    Calls Try.prog 15 #[.slice a n c, .int .i64 wall, .int .i64 day] w fun e w' => e = .returned (.tuple #[.int .i64 (widthP xs wall day).1, .bool (widthP xs wall day).2]) ∧ E0 w w' := by
  refine enterK Non 25 Try.func15 rfl rfl rfl fun K hK => ?_
  repeat (any_goals (
    conv => whnf
    first
    | ((with_reducible refine callF (g := 26) ?_ ?_); kernel_rfl; refine ⟨_, l27Good_c _ _ _ xs _ (by repeat (first | assumption | refine Row.e0 ?_ (by assumption))) hn hm, ?_⟩; intro w4 e4; have z4 := cutLe e4)
    | ((with_reducible refine callF (g := 30) ?_ ?_); kernel_rfl; refine ⟨_, l27Wall_c _ _, ?_⟩; intro w4 e4; have z4 := cutLe e4)
    | ((with_reducible refine callF (g := 42) ?_ ?_); kernel_rfl; refine ⟨_, l2Day_c _ _, ?_⟩; intro w4 e4; have z4 := cutLe e4)
    | ((with_reducible refine callF (g := 43) ?_ ?_); kernel_rfl; refine ⟨_, l27Width_c _ _ _ xs _ _ _ (by repeat (first | assumption | refine Row.e0 ?_ (by assumption))) hn hm, ?_⟩; intro w4 e4; have z4 := cutLe e4)
    | ((with_reducible refine BIF.dec ?_ ?_) <;> intro _)
    | ((with_reducible refine BIF.s ?_ ?_) <;> intro _)
    | (with_reducible refine NEXTK.normal ?_)
    | (with_reducible refine NEXTK.ret ?_)
    | (with_reducible refine NEXTK.exit ?_)
    | (with_reducible refine SEQ.plain ?_)
    | (with_reducible refine hK _ _ ?_)
    | ((with_reducible refine RUNL.agg (fun _ => ?_) ?_); (focus kernel_rfl))
    | (with_reducible refine RUNL.run ?_)
    | ((with_reducible refine AR.ok ?_ ?_); exact ⟨by first | omega | (dsimp only; omega), by first | omega | (dsimp only; omega)⟩)
    | (with_reducible refine AR.wr ?_)
    | ((with_reducible intro w3 e3); try have z3 := cutLe e3)
    | ((with_reducible intro h3); have h4 := Nat.le_of_lt h3; clear h4)))
  all_goals
    intro hx
    refine ⟨?_, hx⟩
    simp_all [widthP, resV]

end Go.Proofs.Ythgeeocmhdpgiaa

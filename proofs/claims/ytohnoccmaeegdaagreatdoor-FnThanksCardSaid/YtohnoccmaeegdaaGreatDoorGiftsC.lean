/- The order of givers. -/
import Derived.Test.YtohnoccmaeegdaaGreatDoorRows
import Derived.Test.YtohnoccmaeegdaaGreatDoorGiftsB
import Derived.Test.YtohnoccmaeegdaaGreatDoorGifts6
namespace Go.Proofs.YtohnoccmaeegdaaGreatDoor
open Go Go.X Go.Proofs Go.ChangeShapes Go.WideShapes Go.ChangeAt Go.RowKit
open Go.ChangeMaps (open_string shut_string)
set_option maxHeartbeats 1000000
set_option maxRecDepth 20000
set_option linter.unusedVariables false
set_option linter.unusedSimpArgs false
def gvCmp (xs : List Gft) (x y : ByteArray) : Int := if cmp3 (sumG y xs) (sumG x xs) = 0 then cmpS x y else cmp3 (sumG y xs) (sumG x xs)
theorem giverCmp_c (x y : ByteArray) (a : Option Addr) (n c : Nat) (xs : List Gft) (p : Addr) (w : World) (hp : Row w (some p) 1 [[.slice a n c]]) (hr : Row w a 5 (xs.map encGft)) (hn : xs.length = n) (ho : areG xs = true) :
    Calls Tryz.prog 42 #[.string x, .string y, .pointer (some p)] w fun e w' => e = .returned (.int .i64 (gvCmp xs x y)) ∧ E0 w w' := by
  refine enterK Non 18 Tryz.func42 rfl rfl rfl fun K hK => ?_
  repeat (any_goals (
    conv => whnf
    first
    | ((with_reducible refine DRAW.plan (id := 1) (.one 1 (.one 4 (.one 7 (.one 8 (.start (.alt 0 (.start (.alt 2 (.start (.alt 3 (.start (.alt 5 (.start (.alt 6 (.start (.alt 9 (.start (.alt 10 (.start (.alt 11 (.one 12 .done) .stop)) .stop)) .stop)) .stop)) .stop)) .stop)) (.alt 3 (.start (.alt 2 (.start (.alt 5 (.start (.alt 6 (.start (.alt 9 (.start (.alt 10 (.start (.alt 11 (.one 12 .done) .stop)) .stop)) .stop)) .stop)) .stop)) .stop)) .stop))) (.alt 3 (.start (.alt 0 (.start (.alt 2 (.start (.alt 5 (.start (.alt 6 (.start (.alt 9 (.start (.alt 10 (.start (.alt 11 (.one 12 .done) .stop)) .stop)) .stop)) .stop)) .stop)) .stop)) .stop)) .stop))))))) ?_ ?_ ?_ ?_); kernel_rfl; kernel_rfl; kernel_rfl)
    | (with_reducible refine And.intro ?_ ?_)
    | (exact True.intro)
    | ((with_reducible refine ELD.old [[.slice a n c]] [.slice a n c] hp ?_ ?_ ?_); exact mAddr_Non _; rfl)
    | ((with_reducible refine callF (g := 44) ?_ ?_); kernel_rfl; refine ⟨_, sheetsFrom_c _ _ _ xs _ _ (by repeat (first | assumption | refine Row.e0 ?_ (by assumption))) hn ho, ?_⟩; intro w4 e4; have z4 := cutLe e4)
    | ((with_reducible refine callF (g := 40) ?_ ?_); kernel_rfl; refine ⟨_, Compare_c _ _ _, ?_⟩; intro w4 e4; have z4 := cutLe e4)
    | ((with_reducible refine callF (g := 45) ?_ ?_); kernel_rfl; refine ⟨_, CompareS_c _ _ _, ?_⟩; intro w4 e4; have z4 := cutLe e4)
    | ((with_reducible refine bsS elemI [.int .i64 (cmp3 (sumG y xs) (sumG x xs)), .int .i64 (cmpS x y)] ?_ ?_ ?_ ?_ ?_); (focus rfl); (focus rfl); (focus (intro v hv; simp at hv; rcases hv with rfl | rfl <;> rfl)); (focus omega); intro w9 e9 oB; have z9 := cutLe e9; replace oB : Own w9 _ 3 1 _ (([cmp3 (sumG y xs) (sumG x xs), cmpS x y] : List Int).map encI) := oB; have qB := oB.row.1)
    | ((with_reducible refine callF (g := 43) ?_ ?_); kernel_rfl; refine ⟨_, Or_c _ (cmp3 (sumG y xs) (sumG x xs)) (cmpS x y) _ _ (by repeat (first | assumption | refine Row.e0 ?_ (by assumption))), ?_⟩; intro w4 e4; have z4 := cutLe e4)
    | ((with_reducible refine BIF.dec ?_ ?_) <;> intro _)
    | ((with_reducible refine BIF.s ?_ ?_) <;> intro _)
    | (with_reducible refine NEXTK.normal ?_)
    | (with_reducible refine NEXTK.ret ?_)
    | (with_reducible refine NEXTK.exit ?_)
    | (with_reducible refine SEQ.plain ?_)
    | (with_reducible refine hK _ _ ?_)
    | ((with_reducible refine RUNL.agg (fun _ => ?_) ?_); (focus kernel_rfl))
    | (with_reducible refine RUNL.run ?_)
    | ((with_reducible refine AR.ok ?_ ?_); exact ⟨by first | omega | (dsimp only; omega), by first | omega | (dsimp only; omega)⟩)
    | (with_reducible refine AR.wr ?_)
    | ((with_reducible intro w3 e3); try have z3 := cutLe e3)
    | ((with_reducible intro h3); have h4 := Nat.le_of_lt h3; clear h4)))
  all_goals
    intro hx
    exact ⟨rfl, hx⟩

end Go.Proofs.YtohnoccmaeegdaaGreatDoor

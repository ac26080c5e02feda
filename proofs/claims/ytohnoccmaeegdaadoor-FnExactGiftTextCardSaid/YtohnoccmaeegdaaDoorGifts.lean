/- The functions on lists of gifts compute what the plain functions say. -/
import Derived.Test.YtohnoccmaeegdaaDoorRows
import Derived.Test.YtohnoccmaeegdaaDoorBase
namespace Go.Proofs.YtohnoccmaeegdaaDoor
open Go Go.X Go.Proofs Go.ChangeShapes Go.WideShapes Go.ChangeAt Go.RowKit
open Go.ChangeMaps (open_string shut_string)
set_option maxHeartbeats 1000000
set_option maxRecDepth 20000
set_option linter.unusedVariables false
set_option linter.unusedSimpArgs false
instance : Inhabited ByteArray := ⟨ByteArray.empty⟩
instance : Inhabited Gft := ⟨⟨0, ByteArray.empty, 0, 0, 0⟩⟩
def okG (x : Gft) : Bool := inB x.fId 1 99 && okW x.fGiver && inB x.fSheets 1 99 && inB x.fDay 0 4000 && (x.fThanks == -1 || inB x.fThanks 0 4000 && decide (x.fDay ≤ x.fThanks))
def gAt (xs : List Gft) (k : Nat) : Bool :=
  match xs[k]? with
  | some x => okG x && (k == 0 || (match xs[k - 1]? with
      | some y => decide (y.fId < x.fId) && decide (y.fDay ≤ x.fDay)
      | none => true))
  | none => true
def gUpto (xs : List Gft) (k : Nat) : Bool := (List.range k).all (gAt xs)
theorem gUpto_succ (xs : List Gft) (k : Nat) : gUpto xs (k + 1) = (gUpto xs k && gAt xs k) := by simp [gUpto, List.range_succ]
def areG (xs : List Gft) : Bool := gUpto xs xs.length && decide (xs.length ≤ 12)
theorem areG_false {xs : List Gft} {k : Nat} (hk : k < xs.length) (h : gAt xs k = false) : areG xs = false := by
  simp only [areG, gUpto, Bool.and_eq_false_iff]
  left
  rw [List.all_eq_false]
  exact ⟨k, by simpa using hk, by simp [h]⟩
theorem isGift_c (x : Gft) (w : World) : Calls Tryd.prog 10 #[.agg (encGft x).toArray] w fun e w' => e = .returned (.bool (okG x)) ∧ E0 w w' := by
  refine enterK Non 40 Tryd.func10 rfl rfl rfl fun K hK => ?_
  repeat (any_goals (
    conv => whnf
    first
    | ((with_reducible refine callF (g := 16) ?_ ?_); kernel_rfl; refine ⟨_, within_c _ _ _ _, ?_⟩; intro w4 e4; have z4 := cutLe e4)
    | ((with_reducible refine callF (g := 15) ?_ ?_); kernel_rfl; refine ⟨_, isDay_c _ _, ?_⟩; intro w4 e4; have z4 := cutLe e4)
    | ((with_reducible refine callF (g := 17) ?_ ?_); kernel_rfl; refine ⟨_, isWord_c _ _, ?_⟩; intro w4 e4; have z4 := cutLe e4)
    | ((with_reducible refine BIF.dec ?_ ?_) <;> intro _)
    | ((with_reducible refine BIF.s ?_ ?_) <;> intro _)
    | (with_reducible refine NEXTK.normal ?_)
    | (with_reducible refine NEXTK.ret ?_)
    | (with_reducible refine NEXTK.exit ?_)
    | (with_reducible refine SEQ.plain ?_)
    | (with_reducible refine hK _ _ ?_)
    | ((with_reducible refine RUNL.agg (fun _ => ?_) ?_); (focus kernel_rfl))
    | (with_reducible refine RUNL.run ?_)
    | ((with_reducible refine AR.ok ?_ ?_); exact ⟨by first | omega | (dsimp only; omega), by first | omega | (dsimp only; omega)⟩)
    | (with_reducible refine AR.wr ?_)
    | ((with_reducible intro w3 e3); try have z3 := cutLe e3)
    | ((with_reducible intro h3); have h4 := Nat.le_of_lt h3; clear h4)))
  all_goals
    intro hx
    refine ⟨?_, hx⟩
    simp_all [okG, resV]
theorem l26One_c (x : Gft) (w : World) (hs : x.fGiver.size ≤ 9223372036854775807) : Calls Tryd.prog 8 #[.agg (encGft x).toArray] w fun e w' => e = .returned (.bool (okG x)) ∧ E0 w w' := by
  refine enterK Non 38 Tryd.func8 rfl rfl rfl fun K hK => ?_
  repeat (any_goals (
    conv => whnf
    first
    | ((with_reducible refine callF (g := 12) ?_ ?_); kernel_rfl; refine ⟨_, l1In_c _ _ _ _, ?_⟩; intro w4 e4; have z4 := cutLe e4)
    | ((with_reducible refine callF (g := 14) ?_ ?_); kernel_rfl; refine ⟨_, l2Day_c _ _, ?_⟩; intro w4 e4; have z4 := cutLe e4)
    | ((with_reducible refine callF (g := 13) ?_ ?_); kernel_rfl; refine ⟨_, l2Word_c _ _ hs, ?_⟩; intro w4 e4; have z4 := cutLe e4)
    | ((with_reducible refine BIF.dec ?_ ?_) <;> intro _)
    | ((with_reducible refine BIF.s ?_ ?_) <;> intro _)
    | (with_reducible refine NEXTK.normal ?_)
    | (with_reducible refine NEXTK.ret ?_)
    | (with_reducible refine NEXTK.exit ?_)
    | (with_reducible refine SEQ.plain ?_)
    | (with_reducible refine hK _ _ ?_)
    | ((with_reducible refine RUNL.agg (fun _ => ?_) ?_); (focus kernel_rfl))
    | (with_reducible refine RUNL.run ?_)
    | ((with_reducible refine AR.ok ?_ ?_); exact ⟨by first | omega | (dsimp only; omega), by first | omega | (dsimp only; omega)⟩)
    | (with_reducible refine AR.wr ?_)
    | ((with_reducible intro w3 e3); try have z3 := cutLe e3)
    | ((with_reducible intro h3); have h4 := Nat.le_of_lt h3; clear h4)))
  all_goals
    intro hx
    refine ⟨?_, hx⟩
    simp_all [okG, resV]

/- The gifts that wait for thanks. -/
import Derived.Test.YtohnoccmaeegdaaGreatDoorRows
import Derived.Test.YtohnoccmaeegdaaGreatDoorGifts3
namespace Go.Proofs.YtohnoccmaeegdaaGreatDoor
open Go Go.X Go.Proofs Go.ChangeShapes Go.WideShapes Go.ChangeAt Go.RowKit
open Go.ChangeMaps (open_string shut_string)
set_option maxHeartbeats 1000000
set_option maxRecDepth 20000
set_option linter.unusedVariables false
set_option linter.unusedSimpArgs false
def thB (d : Int) (x : Gft) : Bool := !decide (x.fThanks = -1) && decide (x.fThanks ≤ d)
def waitG (d : Int) (x : Gft) : Int := if thB d x then x.fThanks - x.fDay else d - x.fDay
theorem isThanked_c (x : Gft) (d : Int) (w : World) : Calls Tryz.prog 65 #[.agg (encGft x).toArray, .int .i64 d] w fun e w' => e = .returned (.bool (thB d x)) ∧ E0 w w' := by
  refine enterK Non 14 Tryz.func65 rfl rfl rfl fun K hK => ?_
  repeat (any_goals (
    conv => whnf
    first
    | ((with_reducible refine BIF.bne ?_ ?_) <;> intro _)
    | ((with_reducible refine BIF.dec ?_ ?_) <;> intro _)
    | ((with_reducible refine BIF.s ?_ ?_) <;> intro _)
    | (with_reducible refine NEXTK.normal ?_)
    | (with_reducible refine NEXTK.ret ?_)
    | (with_reducible refine NEXTK.exit ?_)
    | (with_reducible refine SEQ.plain ?_)
    | (with_reducible refine hK _ _ ?_)
    | ((with_reducible refine RUNL.agg (fun _ => ?_) ?_); (focus kernel_rfl))
    | (with_reducible refine RUNL.run ?_)
    | ((with_reducible refine AR.ok ?_ ?_); exact ⟨by first | omega | (dsimp only; omega), by first | omega | (dsimp only; omega)⟩)
    | (with_reducible refine AR.wr ?_)
    | ((with_reducible intro w3 e3); try have z3 := cutLe e3)
    | ((with_reducible intro h3); have h4 := Nat.le_of_lt h3; clear h4)))
  all_goals
    intro hx
    refine ⟨?_, hx⟩
    clear hK
    simp_all [resV, thB]
theorem wait_c (x : Gft) (d : Int) (w : World) (hok : okG x = true) (hd : 0 ≤ d ∧ d ≤ 4000) : Calls Tryz.prog 34 #[.agg (encGft x).toArray, .int .i64 d] w fun e w' => e = .returned (.int .i64 (waitG d x)) ∧ E0 w w' := by
  have h := okG_spec hok
  refine enterK Non 17 Tryz.func34 rfl rfl rfl fun K hK => ?_
  repeat (any_goals (
    conv => whnf
    first
    | ((with_reducible refine callF (g := 65) ?_ ?_); kernel_rfl; refine ⟨_, isThanked_c _ _ _, ?_⟩; intro w4 e4; have z4 := cutLe e4)
    | ((with_reducible refine BIF.s ?_ ?_) <;> intro hth)
    | ((with_reducible refine BIF.dec ?_ ?_) <;> intro _)
    | ((with_reducible refine BIF.s ?_ ?_) <;> intro _)
    | (with_reducible refine NEXTK.normal ?_)
    | (with_reducible refine NEXTK.ret ?_)
    | (with_reducible refine NEXTK.exit ?_)
    | (with_reducible refine SEQ.plain ?_)
    | (with_reducible refine hK _ _ ?_)
    | ((with_reducible refine RUNL.agg (fun _ => ?_) ?_); (focus kernel_rfl))
    | (with_reducible refine RUNL.run ?_)
    | ((with_reducible refine AR.ok ?_ ?_); exact ⟨by first | omega | (dsimp only; omega), by first | omega | (dsimp only; omega)⟩)
    | (with_reducible refine AR.wr ?_)
    | ((with_reducible intro w3 e3); try have z3 := cutLe e3)
    | ((with_reducible intro h3); have h4 := Nat.le_of_lt h3; clear h4)))
  all_goals
    intro hx
    refine ⟨?_, hx⟩
    unfold waitG
    rw [hth]; rfl
theorem l26Open_c (x : Gft) (d : Int) (w : World) : Calls Tryz.prog 68 #[.agg (encGft x).toArray, .int .i64 d] w fun e w' => e = .returned (.bool (!thB d x)) ∧ E0 w w' := by
  refine enterK Non 14 Tryz.func68 rfl rfl rfl fun K hK => ?_
  repeat (any_goals (
    conv => whnf
    first
    | ((with_reducible refine BIF.beq ?_ ?_) <;> intro _)
    | ((with_reducible refine BIF.dec ?_ ?_) <;> intro _)
    | ((with_reducible refine BIF.s ?_ ?_) <;> intro _)
    | (with_reducible refine NEXTK.normal ?_)
    | (with_reducible refine NEXTK.ret ?_)
    | (with_reducible refine NEXTK.exit ?_)
    | (with_reducible refine SEQ.plain ?_)
    | (with_reducible refine hK _ _ ?_)
    | ((with_reducible refine RUNL.agg (fun _ => ?_) ?_); (focus kernel_rfl))
    | (with_reducible refine RUNL.run ?_)
    | ((with_reducible refine AR.ok ?_ ?_); exact ⟨by first | omega | (dsimp only; omega), by first | omega | (dsimp only; omega)⟩)
    | (with_reducible refine AR.wr ?_)
    | ((with_reducible intro w3 e3); try have z3 := cutLe e3)
    | ((with_reducible intro h3); have h4 := Nat.le_of_lt h3; clear h4)))
  all_goals
    intro hx
    refine ⟨?_, hx⟩
    clear hK
    unfold thB
    first
    | (simp_all [resV]; done)
    | (simp only [resV]; congr 1; by_cases h : x.fThanks ≤ d <;> simp_all <;> omega)
theorem l26Wait_c (x : Gft) (d : Int) (w : World) (hok : okG x = true) (hd : 0 ≤ d ∧ d ≤ 4000) : Calls Tryz.prog 36 #[.agg (encGft x).toArray, .int .i64 d] w fun e w' => e = .returned (.int .i64 (waitG d x)) ∧ E0 w w' := by
  have h := okG_spec hok
  refine enterK Non 17 Tryz.func36 rfl rfl rfl fun K hK => ?_
  repeat (any_goals (
    conv => whnf
    first
    | ((with_reducible refine callF (g := 68) ?_ ?_); kernel_rfl; refine ⟨_, l26Open_c _ _ _, ?_⟩; intro w4 e4; have z4 := cutLe e4)
    | ((with_reducible refine BIF.s ?_ ?_) <;> intro hth)
    | ((with_reducible refine BIF.dec ?_ ?_) <;> intro _)
    | ((with_reducible refine BIF.s ?_ ?_) <;> intro _)
    | (with_reducible refine NEXTK.normal ?_)
    | (with_reducible refine NEXTK.ret ?_)
    | (with_reducible refine NEXTK.exit ?_)
    | (with_reducible refine SEQ.plain ?_)
    | (with_reducible refine hK _ _ ?_)
    | ((with_reducible refine RUNL.agg (fun _ => ?_) ?_); (focus kernel_rfl))
    | (with_reducible refine RUNL.run ?_)
    | ((with_reducible refine AR.ok ?_ ?_); exact ⟨by first | omega | (dsimp only; omega), by first | omega | (dsimp only; omega)⟩)
    | (with_reducible refine AR.wr ?_)
    | ((with_reducible intro w3 e3); try have z3 := cutLe e3)
    | ((with_reducible intro h3); have h4 := Nat.le_of_lt h3; clear h4)))
  all_goals
    intro hx
    refine ⟨?_, hx⟩
    unfold waitG
    clear hK
    first
    | (rw [show thB d x = false by simpa using hth]; rfl)
    | (rw [show thB d x = true by simpa using hth]; rfl)
def unthB (d m : Int) (x : Gft) : Bool := decide (x.fDay ≤ d) && !thB d x && decide (m ≤ waitG d x)
def unthOf (d m : Int) (xs : List Gft) : List Int := (xs.filter (unthB d m)).map (·.fId)
theorem unthOf_take (d m : Int) {xs : List Gft} {k : Nat} {x : Gft} (h : xs[k]? = some x) : unthOf d m (xs.take (k + 1)) = unthOf d m (xs.take k) ++ (if unthB d m x = true then [x.fId] else []) := by
  rw [List.take_add_one, h]
  simp only [unthOf, Option.toList_some, List.filter_append, List.map_append]
  congr 1
  by_cases hx : unthB d m x = true <;> simp [hx]
theorem unthOf_len (d m : Int) (xs : List Gft) : (unthOf d m xs).length ≤ xs.length := by
  simp [unthOf, List.length_filter_le]
def unthOk (xs : List Gft) (d m : Int) : Bool := areG xs && inB d 0 4000 && inB m 0 4000
def unthP (xs : List Gft) (d m : Int) : List Int × Bool := if unthOk xs d m then (unthOf d m xs, true) else ([], false)
theorem unthP_len (xs : List Gft) (d m : Int) : (unthP xs d m).1.length ≤ xs.length := by
  unfold unthP
  split
  · exact unthOf_len d m xs
  · simp

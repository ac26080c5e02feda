/- The text of an order. -/
import Derived.Test.YtlhlbgnhnkfmgaaDoorRows
import Derived.Test.YtlhlbgnhnkfmgaaDoorOrders2
import Derived.Test.YtlhlbgnhnkfmgaaDoorText
namespace Go.Proofs.YtlhlbgnhnkfmgaaDoor
open Go Go.X Go.Proofs Go.ChangeShapes Go.WideShapes Go.ChangeAt Go.RowKit
open Go.ChangeMaps (open_string shut_string)
set_option maxHeartbeats 1000000
set_option maxRecDepth 20000
set_option linter.unusedVariables false
set_option linter.unusedSimpArgs false
def ordB (x : Ord) : ByteArray := ⟨#[35]⟩ ++ numS x.fId ++ ⟨#[32, 114]⟩ ++ numS x.fReader ++ ⟨#[32]⟩ ++ numS x.fPages ++ ⟨#[112, 32]⟩ ++ numS x.fPlaced
def ordP (x : Ord) : ByteArray × Bool := if okO x then (if x.fReady = -1 then ordB x else ordB x ++ ⟨#[62]⟩ ++ numS x.fReady, true) else (ByteArray.empty, false)
theorem OrderTextS_c (x : Ord) (w : World) : Calls Tryd.prog 5 #[.agg (encOrd x).toArray] w fun e w' => e = .returned (.tuple #[.string (ordP x).1, .bool (ordP x).2]) ∧ E0 w w' := by
  refine enterK Non 37 Tryd.func5 rfl rfl rfl fun K hK => ?_
  cases hx : okO x with
  | false =>
    repeat (any_goals (
      conv => whnf
      first
      | ((with_reducible refine callF (g := 23) ?_ ?_); kernel_rfl; refine ⟨_, l28One_c _ _, ?_⟩; intro w4 e4; have z4 := cutLe e4)
      | ((with_reducible refine BIF.s (fun h => absurd h ?_) (fun _ => ?_)); focus (first | (simp; done) | (simp; omega)))
      | ((with_reducible refine BIF.s (fun _ => ?_) (fun h => absurd h ?_)); rotate_left; focus (first | (simp; done) | (simp; omega)))
      | ((with_reducible refine BIF.s (fun h => absurd h ?_) (fun _ => ?_)); focus (simp [hx]; done))
      | ((with_reducible refine BIF.s (fun _ => ?_) (fun h => absurd h ?_)); rotate_left; focus (simp [hx]; done))
      | ((with_reducible refine BIF.dec ?_ ?_) <;> intro _)
      | ((with_reducible refine BIF.s ?_ ?_) <;> intro _)
      | (with_reducible refine NEXTK.normal ?_)
      | (with_reducible refine NEXTK.ret ?_)
      | (with_reducible refine NEXTK.exit ?_)
      | (with_reducible refine SEQ.plain ?_)
      | (with_reducible refine hK _ _ ?_)
      | ((with_reducible refine RUNL.agg (fun _ => ?_) ?_); (focus kernel_rfl))
      | (with_reducible refine RUNL.run ?_)
      | ((with_reducible refine AR.ok ?_ ?_); exact ⟨by first | omega | (dsimp only; omega), by first | omega | (dsimp only; omega)⟩)
      | (with_reducible refine AR.wr ?_)
      | ((with_reducible intro w3 e3); try have z3 := cutLe e3)
      | ((with_reducible intro h3); have h4 := Nat.le_of_lt h3; clear h4)))
    intro hw
    refine ⟨?_, hw⟩
    simp only [ordP, hx]
    rfl
  | true =>
    have hs := okO_spec hx
    have s1 := numS_size (n := x.fId) (by omega) (by omega)
    have s2 := numS_size (n := x.fReader) (by omega) (by omega)
    have s3 := numS_size (n := x.fPages) (by omega) (by omega)
    have s4 := numS_size (n := x.fPlaced) (by omega) (by omega)
    have s5 := numS_size (n := x.fReady) (by omega) (by omega)
    repeat (any_goals (
      conv => whnf
      first
      | ((with_reducible refine callF (g := 23) ?_ ?_); kernel_rfl; refine ⟨_, l28One_c _ _, ?_⟩; intro w4 e4; have z4 := cutLe e4)
      | ((with_reducible refine BIF.s (fun h => absurd h ?_) (fun _ => ?_)); focus (simp [hx]; done))
      | ((with_reducible refine BIF.s (fun _ => ?_) (fun h => absurd h ?_)); rotate_left; focus (simp [hx]; done))
      | ((with_reducible refine DRAW.quietE ?_ ?_ ?_); kernel_rfl; kernel_rfl)
      | ((with_reducible refine callQ (g := 24) ?_ ?_); kernel_rfl; refine ⟨_, fun w' _ => l1Num_z _ _ (by omega), ?_⟩)
      | ((with_reducible refine callF (g := 24) ?_ ?_); kernel_rfl; refine ⟨_, l1Num_z _ _ (by omega), ?_⟩; intro w4 e4; have z4 := cutLe e4)
      | ((with_reducible refine OBL.mk ?_ (fun _ => ?_)); (focus (simp only [ByteArray.size_append, szA1, szA2, szA3, szA4, szA8, szA9, szE]; omega)))
      | ((with_reducible refine BIF.dec ?_ ?_) <;> intro _)
      | ((with_reducible refine BIF.s ?_ ?_) <;> intro _)
      | (with_reducible refine NEXTK.normal ?_)
      | (with_reducible refine NEXTK.ret ?_)
      | (with_reducible refine NEXTK.exit ?_)
      | (with_reducible refine SEQ.plain ?_)
      | (with_reducible refine hK _ _ ?_)
      | ((with_reducible refine RUNL.agg (fun _ => ?_) ?_); (focus kernel_rfl))
      | (with_reducible refine RUNL.run ?_)
      | ((with_reducible refine AR.ok ?_ ?_); exact ⟨by first | omega | (dsimp only; omega), by first | omega | (dsimp only; omega)⟩)
      | (with_reducible refine AR.wr ?_)
      | ((with_reducible intro w3 e3); try have z3 := cutLe e3)
      | ((with_reducible intro h3); have h4 := Nat.le_of_lt h3; clear h4)))
    all_goals
      intro hw
      refine ⟨?_, hw⟩
      simp only [ordP, hx, if_true]
      first
      | (rw [if_neg (by omega)]; rfl)
      | (rw [if_pos (by omega)]; rfl)
theorem OrderText_c (x : Ord) (w : World) (ht : Tab w) : Calls Tryd.prog 7 #[.agg (encOrd x).toArray] w fun e w' => e = .returned (.tuple #[.string (ordP x).1, .bool (ordP x).2]) ∧ E0 w w' := by
  refine enterK Non 37 Tryd.func7 rfl rfl rfl fun K hK => ?_
  cases hx : okO x with
  | false =>
    repeat (any_goals (
      conv => whnf
      first
      | ((with_reducible refine callF (g := 25) ?_ ?_); kernel_rfl; refine ⟨_, isOrder_c _ _, ?_⟩; intro w4 e4; have z4 := cutLe e4)
      | ((with_reducible refine BIF.s (fun h => absurd h ?_) (fun _ => ?_)); focus (first | (simp; done) | (simp; omega)))
      | ((with_reducible refine BIF.s (fun _ => ?_) (fun h => absurd h ?_)); rotate_left; focus (first | (simp; done) | (simp; omega)))
      | ((with_reducible refine BIF.s (fun h => absurd h ?_) (fun _ => ?_)); focus (simp [hx]; done))
      | ((with_reducible refine BIF.s (fun _ => ?_) (fun h => absurd h ?_)); rotate_left; focus (simp [hx]; done))
      | ((with_reducible refine BIF.dec ?_ ?_) <;> intro _)
      | ((with_reducible refine BIF.s ?_ ?_) <;> intro _)
      | (with_reducible refine NEXTK.normal ?_)
      | (with_reducible refine NEXTK.ret ?_)
      | (with_reducible refine NEXTK.exit ?_)
      | (with_reducible refine SEQ.plain ?_)
      | (with_reducible refine hK _ _ ?_)
      | ((with_reducible refine RUNL.agg (fun _ => ?_) ?_); (focus kernel_rfl))
      | (with_reducible refine RUNL.run ?_)
      | ((with_reducible refine AR.ok ?_ ?_); exact ⟨by first | omega | (dsimp only; omega), by first | omega | (dsimp only; omega)⟩)
      | (with_reducible refine AR.wr ?_)
      | ((with_reducible intro w3 e3); try have z3 := cutLe e3)
      | ((with_reducible intro h3); have h4 := Nat.le_of_lt h3; clear h4)))
    intro hw
    refine ⟨?_, hw⟩
    simp only [ordP, hx]
    rfl
  | true =>
    have hs := okO_spec hx
    have s1 := numS_size (n := x.fId) (by omega) (by omega)
    have s2 := numS_size (n := x.fReader) (by omega) (by omega)
    have s3 := numS_size (n := x.fPages) (by omega) (by omega)
    have s4 := numS_size (n := x.fPlaced) (by omega) (by omega)
    have s5 := numS_size (n := x.fReady) (by omega) (by omega)
    by_cases hr : x.fReady = -1
    · repeat (any_goals (
        conv => whnf
        first
        | ((with_reducible refine callF (g := 25) ?_ ?_); kernel_rfl; refine ⟨_, isOrder_c _ _, ?_⟩; intro w4 e4; have z4 := cutLe e4)
        | ((with_reducible refine callF (g := 27) ?_ ?_); kernel_rfl; refine ⟨_, waits_c _ _, ?_⟩; intro w4 e4; have z4 := cutLe e4)
        | ((with_reducible refine BIF.s (fun h => absurd h ?_) (fun _ => ?_)); focus (simp [hx]; done))
        | ((with_reducible refine BIF.s (fun _ => ?_) (fun h => absurd h ?_)); rotate_left; focus (simp [hx]; done))
        | ((with_reducible refine BIF.s (fun h => absurd h ?_) (fun _ => ?_)); focus (simp [hr]; done))
        | ((with_reducible refine BIF.s (fun _ => ?_) (fun h => absurd h ?_)); rotate_left; focus (simp [hr]; done))
        | ((with_reducible refine DRAW.quietE ?_ ?_ ?_); kernel_rfl; kernel_rfl)
        | ((with_reducible refine callQX (g := 26) ?_ ?_); kernel_rfl; refine ⟨_, fun w8 _ hX => text_c _ _ (by unfold I64; omega) (TabIs.e0 ht hX), ?_⟩)
        | ((with_reducible refine callX (g := 26) ?_ ?_); kernel_rfl; intro hX; refine ⟨_, text_c _ _ (by unfold I64; omega) (TabIs.e0 ht hX), ?_⟩; intro w4 e4; have z4 := cutLe e4; clear hX)
        | ((with_reducible refine OBL.mk ?_ (fun _ => ?_)); (focus (simp only [ByteArray.size_append, szA1, szA2, szA3, szA4, szA8, szA9, szE]; omega)))
        | ((with_reducible refine BIF.dec ?_ ?_) <;> intro _)
        | ((with_reducible refine BIF.s ?_ ?_) <;> intro _)
        | (with_reducible refine NEXTK.normal ?_)
        | (with_reducible refine NEXTK.ret ?_)
        | (with_reducible refine NEXTK.exit ?_)
        | (with_reducible refine SEQ.plain ?_)
        | (with_reducible refine hK _ _ ?_)
        | ((with_reducible refine RUNL.agg (fun _ => ?_) ?_); (focus kernel_rfl))
        | (with_reducible refine RUNL.run ?_)
        | ((with_reducible refine AR.ok ?_ ?_); exact ⟨by first | omega | (dsimp only; omega), by first | omega | (dsimp only; omega)⟩)
        | (with_reducible refine AR.wr ?_)
        | ((with_reducible intro w3 e3); try have z3 := cutLe e3)
        | ((with_reducible intro h3); have h4 := Nat.le_of_lt h3; clear h4)))
      all_goals
        intro hw
        refine ⟨?_, hw⟩
        simp only [ordP, hx, if_true]
        rw [if_pos hr]; rfl
    · repeat (any_goals (
        conv => whnf
        first
        | ((with_reducible refine callF (g := 25) ?_ ?_); kernel_rfl; refine ⟨_, isOrder_c _ _, ?_⟩; intro w4 e4; have z4 := cutLe e4)
        | ((with_reducible refine callF (g := 27) ?_ ?_); kernel_rfl; refine ⟨_, waits_c _ _, ?_⟩; intro w4 e4; have z4 := cutLe e4)
        | ((with_reducible refine BIF.s (fun h => absurd h ?_) (fun _ => ?_)); focus (simp [hx]; done))
        | ((with_reducible refine BIF.s (fun _ => ?_) (fun h => absurd h ?_)); rotate_left; focus (simp [hx]; done))
        | ((with_reducible refine BIF.s (fun h => absurd h ?_) (fun _ => ?_)); focus (simp [hr]; done))
        | ((with_reducible refine BIF.s (fun _ => ?_) (fun h => absurd h ?_)); rotate_left; focus (simp [hr]; done))
        | ((with_reducible refine DRAW.quietE ?_ ?_ ?_); kernel_rfl; kernel_rfl)
        | ((with_reducible refine callQX (g := 26) ?_ ?_); kernel_rfl; refine ⟨_, fun w8 _ hX => text_c _ _ (by unfold I64; omega) (TabIs.e0 ht hX), ?_⟩)
        | ((with_reducible refine callX (g := 26) ?_ ?_); kernel_rfl; intro hX; refine ⟨_, text_c _ _ (by unfold I64; omega) (TabIs.e0 ht hX), ?_⟩; intro w4 e4; have z4 := cutLe e4; clear hX)
        | ((with_reducible refine OBL.mk ?_ (fun _ => ?_)); (focus (simp only [ByteArray.size_append, szA1, szA2, szA3, szA4, szA8, szA9, szE]; omega)))
        | ((with_reducible refine BIF.dec ?_ ?_) <;> intro _)
        | ((with_reducible refine BIF.s ?_ ?_) <;> intro _)
        | (with_reducible refine NEXTK.normal ?_)
        | (with_reducible refine NEXTK.ret ?_)
        | (with_reducible refine NEXTK.exit ?_)
        | (with_reducible refine SEQ.plain ?_)
        | (with_reducible refine hK _ _ ?_)
        | ((with_reducible refine RUNL.agg (fun _ => ?_) ?_); (focus kernel_rfl))
        | (with_reducible refine RUNL.run ?_)
        | ((with_reducible refine AR.ok ?_ ?_); exact ⟨by first | omega | (dsimp only; omega), by first | omega | (dsimp only; omega)⟩)
        | (with_reducible refine AR.wr ?_)
        | ((with_reducible intro w3 e3); try have z3 := cutLe e3)
        | ((with_reducible intro h3); have h4 := Nat.le_of_lt h3; clear h4)))
      all_goals
        intro hw
        refine ⟨?_, hw⟩
        simp only [ordP, hx, if_true]
        rw [if_neg hr, @ByteArray.append_assoc (ordB x)]; rfl

end Go.Proofs.YtlhlbgnhnkfmgaaDoor

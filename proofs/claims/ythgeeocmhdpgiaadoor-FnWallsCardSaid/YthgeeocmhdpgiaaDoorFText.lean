/- The text of a frame. -/
import Derived.Test.YthgeeocmhdpgiaaDoorRows
import Derived.Test.YthgeeocmhdpgiaaDoorFrames
import Derived.Test.YthgeeocmhdpgiaaDoorText
namespace Go.Proofs.YthgeeocmhdpgiaaDoor
open Go Go.X Go.Proofs Go.ChangeShapes Go.WideShapes Go.ChangeAt Go.RowKit
open Go.ChangeMaps (open_string shut_string)
set_option maxHeartbeats 1000000
set_option maxRecDepth 20000
set_option linter.unusedVariables false
set_option linter.unusedSimpArgs false
def frmB (x : Frm) : ByteArray := ⟨#[102]⟩ ++ numS x.fId ++ ⟨#[32]⟩ ++ numS x.fWide ++ ⟨#[99, 109, 32, 119, 97, 108, 108, 32]⟩ ++ numS x.fWall ++ ⟨#[32]⟩ ++ numS x.fFrom ++ ⟨#[46, 46]⟩ ++ numS x.fUntil
def frmP (x : Frm) : ByteArray × Bool := if okF x then (frmB x, true) else (ByteArray.empty, false)
theorem okF_rng {f : Frm} (h : okF f = true) : (1 ≤ f.fId ∧ f.fId ≤ 99) ∧ (10 ≤ f.fWide ∧ f.fWide ≤ 500) ∧ (1 ≤ f.fWall ∧ f.fWall ≤ 4) ∧ (0 ≤ f.fFrom ∧ f.fFrom ≤ 4000) ∧ (0 ≤ f.fUntil ∧ f.fUntil ≤ 4000) ∧ f.fFrom ≤ f.fUntil := by
  simp [okF, inB] at h
  omega
theorem FrameTextS_c (x : Frm) (w : World) : Calls Tryd.prog 5 #[.agg (encFrm x).toArray] w fun e w' => e = .returned (.tuple #[.string (frmP x).1, .bool (frmP x).2]) ∧ E0 w w' := by
  refine enterK Non 31 Tryd.func5 rfl rfl rfl fun K hK => ?_
  cases hx : okF x with
  | false =>
    repeat (any_goals (
      conv => whnf
      first
      | ((with_reducible refine callF (g := 29) ?_ ?_); kernel_rfl; refine ⟨_, l27One_c _ _, ?_⟩; intro w4 e4; have z4 := cutLe e4)
      | ((with_reducible refine BIF.s (fun h => absurd h ?_) (fun _ => ?_)); focus (first | (simp; done) | (simp; omega)))
      | ((with_reducible refine BIF.s (fun _ => ?_) (fun h => absurd h ?_)); rotate_left; focus (first | (simp; done) | (simp; omega)))
      | ((with_reducible refine BIF.s (fun h => absurd h ?_) (fun _ => ?_)); focus (simp [hx]; done))
      | ((with_reducible refine BIF.s (fun _ => ?_) (fun h => absurd h ?_)); rotate_left; focus (simp [hx]; done))
      | ((with_reducible refine BIF.dec ?_ ?_) <;> intro _)
      | ((with_reducible refine BIF.s ?_ ?_) <;> intro _)
      | (with_reducible refine NEXTK.normal ?_)
      | (with_reducible refine NEXTK.ret ?_)
      | (with_reducible refine NEXTK.exit ?_)
      | (with_reducible refine SEQ.plain ?_)
      | (with_reducible refine hK _ _ ?_)
      | ((with_reducible refine RUNL.agg (fun _ => ?_) ?_); (focus kernel_rfl))
      | (with_reducible refine RUNL.run ?_)
      | ((with_reducible refine AR.ok ?_ ?_); exact ⟨by first | omega | (dsimp only; omega), by first | omega | (dsimp only; omega)⟩)
      | (with_reducible refine AR.wr ?_)
      | ((with_reducible intro w3 e3); try have z3 := cutLe e3)
      | ((with_reducible intro h3); have h4 := Nat.le_of_lt h3; clear h4)))
    intro hw
    refine ⟨?_, hw⟩
    simp only [frmP, hx]
    rfl
  | true =>
    have hs := okF_rng hx
    have s1 := numS_size (n := x.fId) (by omega) (by omega)
    have s2 := numS_size (n := x.fWide) (by omega) (by omega)
    have s3 := numS_size (n := x.fWall) (by omega) (by omega)
    have s4 := numS_size (n := x.fFrom) (by omega) (by omega)
    have s5 := numS_size (n := x.fUntil) (by omega) (by omega)
    repeat (any_goals (
      conv => whnf
      first
      | ((with_reducible refine callF (g := 29) ?_ ?_); kernel_rfl; refine ⟨_, l27One_c _ _, ?_⟩; intro w4 e4; have z4 := cutLe e4)
      | ((with_reducible refine BIF.s (fun h => absurd h ?_) (fun _ => ?_)); focus (simp [hx]; done))
      | ((with_reducible refine BIF.s (fun _ => ?_) (fun h => absurd h ?_)); rotate_left; focus (simp [hx]; done))
      | ((with_reducible refine DRAW.quietE ?_ ?_ ?_); kernel_rfl; kernel_rfl)
      | ((with_reducible refine callQ (g := 30) ?_ ?_); kernel_rfl; refine ⟨_, fun w' _ => l1Num_z _ _ (by omega), ?_⟩)
      | ((with_reducible refine OBL.mk ?_ (fun _ => ?_)); (focus (simp only [ByteArray.size_append, szA1, szA2, szA3, szA4, szA8, szA9, szE]; omega)))
      | ((with_reducible refine BIF.dec ?_ ?_) <;> intro _)
      | ((with_reducible refine BIF.s ?_ ?_) <;> intro _)
      | (with_reducible refine NEXTK.normal ?_)
      | (with_reducible refine NEXTK.ret ?_)
      | (with_reducible refine NEXTK.exit ?_)
      | (with_reducible refine SEQ.plain ?_)
      | (with_reducible refine hK _ _ ?_)
      | ((with_reducible refine RUNL.agg (fun _ => ?_) ?_); (focus kernel_rfl))
      | (with_reducible refine RUNL.run ?_)
      | ((with_reducible refine AR.ok ?_ ?_); exact ⟨by first | omega | (dsimp only; omega), by first | omega | (dsimp only; omega)⟩)
      | (with_reducible refine AR.wr ?_)
      | ((with_reducible intro w3 e3); try have z3 := cutLe e3)
      | ((with_reducible intro h3); have h4 := Nat.le_of_lt h3; clear h4)))
    all_goals
      intro hw
      refine ⟨?_, hw⟩
      simp only [frmP, hx, if_true]
      rfl
theorem FrameText_c (x : Frm) (w : World) (ht : Tab w) : Calls Tryd.prog 7 #[.agg (encFrm x).toArray] w fun e w' => e = .returned (.tuple #[.string (frmP x).1, .bool (frmP x).2]) ∧ E0 w w' := by
  refine enterK Non 31 Tryd.func7 rfl rfl rfl fun K hK => ?_
  cases hx : okF x with
  | false =>
    repeat (any_goals (
      conv => whnf
      first
      | ((with_reducible refine callF (g := 31) ?_ ?_); kernel_rfl; refine ⟨_, isFrame_c _ _, ?_⟩; intro w4 e4; have z4 := cutLe e4)
      | ((with_reducible refine BIF.s (fun h => absurd h ?_) (fun _ => ?_)); focus (first | (simp; done) | (simp; omega)))
      | ((with_reducible refine BIF.s (fun _ => ?_) (fun h => absurd h ?_)); rotate_left; focus (first | (simp; done) | (simp; omega)))
      | ((with_reducible refine BIF.s (fun h => absurd h ?_) (fun _ => ?_)); focus (simp [hx]; done))
      | ((with_reducible refine BIF.s (fun _ => ?_) (fun h => absurd h ?_)); rotate_left; focus (simp [hx]; done))
      | ((with_reducible refine BIF.dec ?_ ?_) <;> intro _)
      | ((with_reducible refine BIF.s ?_ ?_) <;> intro _)
      | (with_reducible refine NEXTK.normal ?_)
      | (with_reducible refine NEXTK.ret ?_)
      | (with_reducible refine NEXTK.exit ?_)
      | (with_reducible refine SEQ.plain ?_)
      | (with_reducible refine hK _ _ ?_)
      | ((with_reducible refine RUNL.agg (fun _ => ?_) ?_); (focus kernel_rfl))
      | (with_reducible refine RUNL.run ?_)
      | ((with_reducible refine AR.ok ?_ ?_); exact ⟨by first | omega | (dsimp only; omega), by first | omega | (dsimp only; omega)⟩)
      | (with_reducible refine AR.wr ?_)
      | ((with_reducible intro w3 e3); try have z3 := cutLe e3)
      | ((with_reducible intro h3); have h4 := Nat.le_of_lt h3; clear h4)))
    intro hw
    refine ⟨?_, hw⟩
    simp only [frmP, hx]
    rfl
  | true =>
    have hs := okF_rng hx
    have s1 := numS_size (n := x.fId) (by omega) (by omega)
    have s2 := numS_size (n := x.fWide) (by omega) (by omega)
    have s3 := numS_size (n := x.fWall) (by omega) (by omega)
    have s4 := numS_size (n := x.fFrom) (by omega) (by omega)
    have s5 := numS_size (n := x.fUntil) (by omega) (by omega)
    repeat (any_goals (
      conv => whnf
      first
      | ((with_reducible refine callF (g := 31) ?_ ?_); kernel_rfl; refine ⟨_, isFrame_c _ _, ?_⟩; intro w4 e4; have z4 := cutLe e4)
      | ((with_reducible refine BIF.s (fun h => absurd h ?_) (fun _ => ?_)); focus (simp [hx]; done))
      | ((with_reducible refine BIF.s (fun _ => ?_) (fun h => absurd h ?_)); rotate_left; focus (simp [hx]; done))
      | ((with_reducible refine DRAW.quietE ?_ ?_ ?_); kernel_rfl; kernel_rfl)
      | ((with_reducible refine callQX (g := 32) ?_ ?_); kernel_rfl; refine ⟨_, fun w8 _ hX => text_c _ _ (by unfold I64; omega) (TabIs.e0 ht hX), ?_⟩)
      | ((with_reducible refine OBL.mk ?_ (fun _ => ?_)); (focus (simp only [ByteArray.size_append, szA1, szA2, szA3, szA4, szA8, szA9, szE]; omega)))
      | ((with_reducible refine BIF.dec ?_ ?_) <;> intro _)
      | ((with_reducible refine BIF.s ?_ ?_) <;> intro _)
      | (with_reducible refine NEXTK.normal ?_)
      | (with_reducible refine NEXTK.ret ?_)
      | (with_reducible refine NEXTK.exit ?_)
      | (with_reducible refine SEQ.plain ?_)
      | (with_reducible refine hK _ _ ?_)
      | ((with_reducible refine RUNL.agg (fun _ => ?_) ?_); (focus kernel_rfl))
      | (with_reducible refine RUNL.run ?_)
      | ((with_reducible refine AR.ok ?_ ?_); exact ⟨by first | omega | (dsimp only; omega), by first | omega | (dsimp only; omega)⟩)
      | (with_reducible refine AR.wr ?_)
      | ((with_reducible intro w3 e3); try have z3 := cutLe e3)
      | ((with_reducible intro h3); have h4 := Nat.le_of_lt h3; clear h4)))
    all_goals
      intro hw
      refine ⟨?_, hw⟩
      simp only [frmP, hx, if_true]
      rfl

end Go.Proofs.YthgeeocmhdpgiaaDoor

/- The text of a gift. -/
import Derived.Test.YtohnoccmaeegdaaGreatDoorRows
import Derived.Test.YtohnoccmaeegdaaGreatDoorGifts
import Derived.Test.YtohnoccmaeegdaaGreatDoorText
namespace Go.Proofs.YtohnoccmaeegdaaGreatDoor
open Go Go.X Go.Proofs Go.ChangeShapes Go.WideShapes Go.ChangeAt Go.RowKit
open Go.ChangeMaps (open_string shut_string)
set_option maxHeartbeats 1000000
set_option maxRecDepth 20000
set_option linter.unusedVariables false
set_option linter.unusedSimpArgs false
def gftB (x : Gft) : ByteArray := numS x.fId ++ ⟨#[32]⟩ ++ x.fGiver ++ ⟨#[32, 120]⟩ ++ numS x.fSheets ++ ⟨#[32, 111, 110, 32]⟩ ++ numS x.fDay
def gftP (x : Gft) : ByteArray × Bool := if okG x then (if x.fThanks = -1 then gftB x else gftB x ++ ⟨#[32, 116, 104, 97, 110, 107, 101, 100, 32]⟩ ++ numS x.fThanks, true) else (ByteArray.empty, false)
theorem okG_rng {x : Gft} (h : okG x = true) : (1 ≤ x.fId ∧ x.fId ≤ 99) ∧ (x.fGiver.size ≤ 10) ∧ (1 ≤ x.fSheets ∧ x.fSheets ≤ 99) ∧ (0 ≤ x.fDay ∧ x.fDay ≤ 4000) ∧ (x.fThanks = -1 ∨ (0 ≤ x.fThanks ∧ x.fThanks ≤ 4000)) := by
  simp [okG, okW, inB] at h
  omega
theorem GiftTextS_c (x : Gft) (w : World) (hz : x.fGiver.size ≤ 9223372036854775807) : Calls Tryz.prog 20 #[.agg (encGft x).toArray] w fun e w' => e = .returned (.tuple #[.string (gftP x).1, .bool (gftP x).2]) ∧ E0 w w' := by
  refine enterK Non 35 Tryz.func20 rfl rfl rfl fun K hK => ?_
  cases hx : okG x with
  | false =>
    repeat (any_goals (
      conv => whnf
      first
      | ((with_reducible refine callF (g := 52) ?_ ?_); kernel_rfl; refine ⟨_, l26One_c _ _ hz, ?_⟩; intro w4 e4; have z4 := cutLe e4)
      | ((with_reducible refine BIF.s (fun h => absurd h ?_) (fun _ => ?_)); focus (first | (simp; done) | (simp; omega)))
      | ((with_reducible refine BIF.s (fun _ => ?_) (fun h => absurd h ?_)); rotate_left; focus (first | (simp; done) | (simp; omega)))
      | ((with_reducible refine BIF.s (fun h => absurd h ?_) (fun _ => ?_)); focus (simp [hx]; done))
      | ((with_reducible refine BIF.s (fun _ => ?_) (fun h => absurd h ?_)); rotate_left; focus (simp [hx]; done))
      | ((with_reducible refine BIF.dec ?_ ?_) <;> intro _)
      | ((with_reducible refine BIF.s ?_ ?_) <;> intro _)
      | (with_reducible refine NEXTK.normal ?_)
      | (with_reducible refine NEXTK.ret ?_)
      | (with_reducible refine NEXTK.exit ?_)
      | (with_reducible refine SEQ.plain ?_)
      | (with_reducible refine hK _ _ ?_)
      | ((with_reducible refine RUNL.agg (fun _ => ?_) ?_); (focus kernel_rfl))
      | (with_reducible refine RUNL.run ?_)
      | ((with_reducible refine AR.ok ?_ ?_); exact ⟨by first | omega | (dsimp only; omega), by first | omega | (dsimp only; omega)⟩)
      | (with_reducible refine AR.wr ?_)
      | ((with_reducible intro w3 e3); try have z3 := cutLe e3)
      | ((with_reducible intro h3); have h4 := Nat.le_of_lt h3; clear h4)))
    intro hw
    refine ⟨?_, hw⟩
    simp only [gftP, hx]
    rfl
  | true =>
    have hs := okG_rng hx
    have s1 := numS_size (n := x.fId) (by omega) (by omega)
    have s2 := numS_size (n := x.fSheets) (by omega) (by omega)
    have s3 := numS_size (n := x.fDay) (by omega) (by omega)
    have s4 := numS_size (n := x.fThanks) (by omega) (by omega)
    repeat (any_goals (
      conv => whnf
      first
      | ((with_reducible refine callF (g := 52) ?_ ?_); kernel_rfl; refine ⟨_, l26One_c _ _ hz, ?_⟩; intro w4 e4; have z4 := cutLe e4)
      | ((with_reducible refine BIF.s (fun h => absurd h ?_) (fun _ => ?_)); focus (simp [hx]; done))
      | ((with_reducible refine BIF.s (fun _ => ?_) (fun h => absurd h ?_)); rotate_left; focus (simp [hx]; done))
      | ((with_reducible refine DRAW.quietE ?_ ?_ ?_); kernel_rfl; kernel_rfl)
      | ((with_reducible refine callQ (g := 53) ?_ ?_); kernel_rfl; refine ⟨_, fun w' _ => l1Num_z _ _ (by omega), ?_⟩)
      | ((with_reducible refine callF (g := 53) ?_ ?_); kernel_rfl; refine ⟨_, l1Num_z _ _ (by omega), ?_⟩; intro w4 e4; have z4 := cutLe e4)
      | ((with_reducible refine OBL.mk ?_ (fun _ => ?_)); (focus (simp only [ByteArray.size_append, szA1, szA2, szA3, szA4, szA8, szA9, szE]; omega)))
      | ((with_reducible refine BIF.dec ?_ ?_) <;> intro _)
      | ((with_reducible refine BIF.s ?_ ?_) <;> intro _)
      | (with_reducible refine NEXTK.normal ?_)
      | (with_reducible refine NEXTK.ret ?_)
      | (with_reducible refine NEXTK.exit ?_)
      | (with_reducible refine SEQ.plain ?_)
      | (with_reducible refine hK _ _ ?_)
      | ((with_reducible refine RUNL.agg (fun _ => ?_) ?_); (focus kernel_rfl))
      | (with_reducible refine RUNL.run ?_)
      | ((with_reducible refine AR.ok ?_ ?_); exact ⟨by first | omega | (dsimp only; omega), by first | omega | (dsimp only; omega)⟩)
      | (with_reducible refine AR.wr ?_)
      | ((with_reducible intro w3 e3); try have z3 := cutLe e3)
      | ((with_reducible intro h3); have h4 := Nat.le_of_lt h3; clear h4)))
    all_goals
      intro hw
      refine ⟨?_, hw⟩
      simp only [gftP, hx, if_true]
      first
      | (rw [if_neg (by omega)]; rfl)
      | (rw [if_pos (by omega)]; rfl)
theorem GiftText_c (x : Gft) (w : World) (ht : Tab w) : Calls Tryz.prog 19 #[.agg (encGft x).toArray] w fun e w' => e = .returned (.tuple #[.string (gftP x).1, .bool (gftP x).2]) ∧ E0 w w' := by
  refine enterK Non 35 Tryz.func19 rfl rfl rfl fun K hK => ?_
  cases hx : okG x with
  | false =>
    repeat (any_goals (
      conv => whnf
      first
      | ((with_reducible refine callF (g := 50) ?_ ?_); kernel_rfl; refine ⟨_, isGift_c _ _, ?_⟩; intro w4 e4; have z4 := cutLe e4)
      | ((with_reducible refine BIF.s (fun h => absurd h ?_) (fun _ => ?_)); focus (first | (simp; done) | (simp; omega)))
      | ((with_reducible refine BIF.s (fun _ => ?_) (fun h => absurd h ?_)); rotate_left; focus (first | (simp; done) | (simp; omega)))
      | ((with_reducible refine BIF.s (fun h => absurd h ?_) (fun _ => ?_)); focus (simp [hx]; done))
      | ((with_reducible refine BIF.s (fun _ => ?_) (fun h => absurd h ?_)); rotate_left; focus (simp [hx]; done))
      | ((with_reducible refine BIF.dec ?_ ?_) <;> intro _)
      | ((with_reducible refine BIF.s ?_ ?_) <;> intro _)
      | (with_reducible refine NEXTK.normal ?_)
      | (with_reducible refine NEXTK.ret ?_)
      | (with_reducible refine NEXTK.exit ?_)
      | (with_reducible refine SEQ.plain ?_)
      | (with_reducible refine hK _ _ ?_)
      | ((with_reducible refine RUNL.agg (fun _ => ?_) ?_); (focus kernel_rfl))
      | (with_reducible refine RUNL.run ?_)
      | ((with_reducible refine AR.ok ?_ ?_); exact ⟨by first | omega | (dsimp only; omega), by first | omega | (dsimp only; omega)⟩)
      | (with_reducible refine AR.wr ?_)
      | ((with_reducible intro w3 e3); try have z3 := cutLe e3)
      | ((with_reducible intro h3); have h4 := Nat.le_of_lt h3; clear h4)))
    intro hw
    refine ⟨?_, hw⟩
    simp only [gftP, hx]
    rfl
  | true =>
    have hs := okG_rng hx
    have s1 := numS_size (n := x.fId) (by omega) (by omega)
    have s2 := numS_size (n := x.fSheets) (by omega) (by omega)
    have s3 := numS_size (n := x.fDay) (by omega) (by omega)
    have s4 := numS_size (n := x.fThanks) (by omega) (by omega)
    repeat (any_goals (
      conv => whnf
      first
      | ((with_reducible refine callF (g := 50) ?_ ?_); kernel_rfl; refine ⟨_, isGift_c _ _, ?_⟩; intro w4 e4; have z4 := cutLe e4)
      | ((with_reducible refine BIF.s (fun h => absurd h ?_) (fun _ => ?_)); focus (simp [hx]; done))
      | ((with_reducible refine BIF.s (fun _ => ?_) (fun h => absurd h ?_)); rotate_left; focus (simp [hx]; done))
      | ((with_reducible refine BIF.bne ?_ ?_) <;> intro hr)
      | ((with_reducible refine DRAW.quietE ?_ ?_ ?_); kernel_rfl; kernel_rfl)
      | ((with_reducible refine callQX (g := 51) ?_ ?_); kernel_rfl; refine ⟨_, fun w8 _ hX => text_c _ _ (by unfold I64; omega) (TabIs.e0 ht hX), ?_⟩)
      | ((with_reducible refine callX (g := 51) ?_ ?_); kernel_rfl; intro hX; refine ⟨_, text_c _ _ (by unfold I64; omega) (TabIs.e0 ht hX), ?_⟩; intro w4 e4; have z4 := cutLe e4; clear hX)
      | ((with_reducible refine OBL.mk ?_ (fun _ => ?_)); (focus (simp only [ByteArray.size_append, szA1, szA2, szA3, szA4, szA8, szA9, szE]; omega)))
      | ((with_reducible refine BIF.dec ?_ ?_) <;> intro _)
      | ((with_reducible refine BIF.s ?_ ?_) <;> intro _)
      | (with_reducible refine NEXTK.normal ?_)
      | (with_reducible refine NEXTK.ret ?_)
      | (with_reducible refine NEXTK.exit ?_)
      | (with_reducible refine SEQ.plain ?_)
      | (with_reducible refine hK _ _ ?_)
      | ((with_reducible refine RUNL.agg (fun _ => ?_) ?_); (focus kernel_rfl))
      | (with_reducible refine RUNL.run ?_)
      | ((with_reducible refine AR.ok ?_ ?_); exact ⟨by first | omega | (dsimp only; omega), by first | omega | (dsimp only; omega)⟩)
      | (with_reducible refine AR.wr ?_)
      | ((with_reducible intro w3 e3); try have z3 := cutLe e3)
      | ((with_reducible intro h3); have h4 := Nat.le_of_lt h3; clear h4)))
    all_goals
      intro hw
      refine ⟨?_, hw⟩
      simp only [gftP, hx, if_true]
      first
      | (rw [if_neg hr, @ByteArray.append_assoc (gftB x)]; rfl)
      | (rw [if_pos hr]; rfl)

end Go.Proofs.YtohnoccmaeegdaaGreatDoor

/- The text of a damage. -/
import Derived.Test.YtgopcppegjhmiaaDoorRows
import Derived.Test.YtgopcppegjhmiaaDoorRep1
import Derived.Test.YtgopcppegjhmiaaDoorText
namespace Go.Proofs.YtgopcppegjhmiaaDoor
open Go Go.X Go.Proofs Go.ChangeShapes Go.WideShapes Go.ChangeAt Go.RowKit
open Go.ChangeMaps (open_string shut_string)
set_option maxHeartbeats 1000000
set_option maxRecDepth 20000
set_option linter.unusedVariables false
set_option linter.unusedSimpArgs false
def dmgB (x : Dmg) : ByteArray := numS x.fSheet ++ ⟨#[58, 32]⟩ ++ numS x.fTears ++ ⟨#[116, 32]⟩ ++ numS x.fFolds ++ ⟨#[102, 32]⟩ ++ numS x.fStain ++ ⟨#[37]⟩
def dmgT (x : Dmg) : ByteArray × Bool := if okD x then (dmgB x, true) else (ByteArray.empty, false)
theorem DamageTextS_c (x : Dmg) (w : World) : Calls Tryd.prog 23 #[.agg (encDmg x).toArray] w fun e w' => e = .returned (.tuple #[.string (dmgT x).1, .bool (dmgT x).2]) ∧ E0 w w' := by
  refine enterK Non 26 Tryd.func23 rfl rfl rfl fun K hK => ?_
  cases hx : okD x with
  | false =>
    repeat (any_goals (
      conv => whnf
      first
      | ((with_reducible refine callF (g := 50) ?_ ?_); kernel_rfl; refine ⟨_, l22One_c _ _, ?_⟩; intro w4 e4; have z4 := cutLe e4)
      | ((with_reducible refine BIF.s (fun h => absurd h ?_) (fun _ => ?_)); focus (first | (simp; done) | (simp; omega)))
      | ((with_reducible refine BIF.s (fun _ => ?_) (fun h => absurd h ?_)); rotate_left; focus (first | (simp; done) | (simp; omega)))
      | ((with_reducible refine BIF.s (fun h => absurd h ?_) (fun _ => ?_)); focus (simp [hx]; done))
      | ((with_reducible refine BIF.s (fun _ => ?_) (fun h => absurd h ?_)); rotate_left; focus (simp [hx]; done))
      | ((with_reducible refine BIF.dec ?_ ?_) <;> intro _)
      | ((with_reducible refine BIF.s ?_ ?_) <;> intro _)
      | (with_reducible refine NEXTK.normal ?_)
      | (with_reducible refine NEXTK.ret ?_)
      | (with_reducible refine NEXTK.exit ?_)
      | (with_reducible refine SEQ.plain ?_)
      | (with_reducible refine hK _ _ ?_)
      | ((with_reducible refine RUNL.agg (fun _ => ?_) ?_); (focus kernel_rfl))
      | (with_reducible refine RUNL.run ?_)
      | ((with_reducible refine AR.ok ?_ ?_); exact ⟨by first | omega | (dsimp only; omega), by first | omega | (dsimp only; omega)⟩)
      | (with_reducible refine AR.wr ?_)
      | ((with_reducible intro w3 e3); try have z3 := cutLe e3)
      | ((with_reducible intro h3); have h4 := Nat.le_of_lt h3; clear h4)))
    intro hw
    refine ⟨?_, hw⟩
    simp only [dmgT, hx]
    rfl
  | true =>
    have hs := okD_spec hx
    have s1 := numS_size (n := x.fSheet) (by omega) (by omega)
    have s2 := numS_size (n := x.fTears) (by omega) (by omega)
    have s3 := numS_size (n := x.fFolds) (by omega) (by omega)
    have s4 := numS_size (n := x.fStain) (by omega) (by omega)
    repeat (any_goals (
      conv => whnf
      first
      | ((with_reducible refine callF (g := 50) ?_ ?_); kernel_rfl; refine ⟨_, l22One_c _ _, ?_⟩; intro w4 e4; have z4 := cutLe e4)
      | ((with_reducible refine BIF.s (fun h => absurd h ?_) (fun _ => ?_)); focus (simp [hx]; done))
      | ((with_reducible refine BIF.s (fun _ => ?_) (fun h => absurd h ?_)); rotate_left; focus (simp [hx]; done))
      | ((with_reducible refine DRAW.quietE ?_ ?_ ?_); kernel_rfl; kernel_rfl)
      | ((with_reducible refine callQ (g := 51) ?_ ?_); kernel_rfl; refine ⟨_, fun w' _ => l1Num_z _ _ (by omega), ?_⟩)
      | ((with_reducible refine OBL.mk ?_ (fun _ => ?_)); (focus (simp only [ByteArray.size_append, szA1, szA2, szA3, szA4, szA8, szA9, szE]; omega)))
      | ((with_reducible refine BIF.dec ?_ ?_) <;> intro _)
      | ((with_reducible refine BIF.s ?_ ?_) <;> intro _)
      | (with_reducible refine NEXTK.normal ?_)
      | (with_reducible refine NEXTK.ret ?_)
      | (with_reducible refine NEXTK.exit ?_)
      | (with_reducible refine SEQ.plain ?_)
      | (with_reducible refine hK _ _ ?_)
      | ((with_reducible refine RUNL.agg (fun _ => ?_) ?_); (focus kernel_rfl))
      | (with_reducible refine RUNL.run ?_)
      | ((with_reducible refine AR.ok ?_ ?_); exact ⟨by first | omega | (dsimp only; omega), by first | omega | (dsimp only; omega)⟩)
      | (with_reducible refine AR.wr ?_)
      | ((with_reducible intro w3 e3); try have z3 := cutLe e3)
      | ((with_reducible intro h3); have h4 := Nat.le_of_lt h3; clear h4)))
    all_goals
      intro hw
      refine ⟨?_, hw⟩
      simp only [dmgT, hx, if_true]
      rfl
theorem DamageText_c (x : Dmg) (w : World) (ht : Tab w) : Calls Tryd.prog 22 #[.agg (encDmg x).toArray] w fun e w' => e = .returned (.tuple #[.string (dmgT x).1, .bool (dmgT x).2]) ∧ E0 w w' := by
  refine enterK Non 26 Tryd.func22 rfl rfl rfl fun K hK => ?_
  cases hx : okD x with
  | false =>
    repeat (any_goals (
      conv => whnf
      first
      | ((with_reducible refine callF (g := 45) ?_ ?_); kernel_rfl; refine ⟨_, isDamage_c _ _, ?_⟩; intro w4 e4; have z4 := cutLe e4)
      | ((with_reducible refine BIF.s (fun h => absurd h ?_) (fun _ => ?_)); focus (first | (simp; done) | (simp; omega)))
      | ((with_reducible refine BIF.s (fun _ => ?_) (fun h => absurd h ?_)); rotate_left; focus (first | (simp; done) | (simp; omega)))
      | ((with_reducible refine BIF.s (fun h => absurd h ?_) (fun _ => ?_)); focus (simp [hx]; done))
      | ((with_reducible refine BIF.s (fun _ => ?_) (fun h => absurd h ?_)); rotate_left; focus (simp [hx]; done))
      | ((with_reducible refine BIF.dec ?_ ?_) <;> intro _)
      | ((with_reducible refine BIF.s ?_ ?_) <;> intro _)
      | (with_reducible refine NEXTK.normal ?_)
      | (with_reducible refine NEXTK.ret ?_)
      | (with_reducible refine NEXTK.exit ?_)
      | (with_reducible refine SEQ.plain ?_)
      | (with_reducible refine hK _ _ ?_)
      | ((with_reducible refine RUNL.agg (fun _ => ?_) ?_); (focus kernel_rfl))
      | (with_reducible refine RUNL.run ?_)
      | ((with_reducible refine AR.ok ?_ ?_); exact ⟨by first | omega | (dsimp only; omega), by first | omega | (dsimp only; omega)⟩)
      | (with_reducible refine AR.wr ?_)
      | ((with_reducible intro w3 e3); try have z3 := cutLe e3)
      | ((with_reducible intro h3); have h4 := Nat.le_of_lt h3; clear h4)))
    intro hw
    refine ⟨?_, hw⟩
    simp only [dmgT, hx]
    rfl
  | true =>
    have hs := okD_spec hx
    have s1 := numS_size (n := x.fSheet) (by omega) (by omega)
    have s2 := numS_size (n := x.fTears) (by omega) (by omega)
    have s3 := numS_size (n := x.fFolds) (by omega) (by omega)
    have s4 := numS_size (n := x.fStain) (by omega) (by omega)
    repeat (any_goals (
      conv => whnf
      first
      | ((with_reducible refine callF (g := 45) ?_ ?_); kernel_rfl; refine ⟨_, isDamage_c _ _, ?_⟩; intro w4 e4; have z4 := cutLe e4)
      | ((with_reducible refine BIF.s (fun h => absurd h ?_) (fun _ => ?_)); focus (simp [hx]; done))
      | ((with_reducible refine BIF.s (fun _ => ?_) (fun h => absurd h ?_)); rotate_left; focus (simp [hx]; done))
      | ((with_reducible refine DRAW.quietE ?_ ?_ ?_); kernel_rfl; kernel_rfl)
      | ((with_reducible refine callQX (g := 49) ?_ ?_); kernel_rfl; refine ⟨_, fun w8 _ hX => text_c _ _ (by unfold I64; omega) (TabIs.e0 ht hX), ?_⟩)
      | ((with_reducible refine OBL.mk ?_ (fun _ => ?_)); (focus (simp only [ByteArray.size_append, szA1, szA2, szA3, szA4, szA8, szA9, szE]; omega)))
      | ((with_reducible refine BIF.dec ?_ ?_) <;> intro _)
      | ((with_reducible refine BIF.s ?_ ?_) <;> intro _)
      | (with_reducible refine NEXTK.normal ?_)
      | (with_reducible refine NEXTK.ret ?_)
      | (with_reducible refine NEXTK.exit ?_)
      | (with_reducible refine SEQ.plain ?_)
      | (with_reducible refine hK _ _ ?_)
      | ((with_reducible refine RUNL.agg (fun _ => ?_) ?_); (focus kernel_rfl))
      | (with_reducible refine RUNL.run ?_)
      | ((with_reducible refine AR.ok ?_ ?_); exact ⟨by first | omega | (dsimp only; omega), by first | omega | (dsimp only; omega)⟩)
      | (with_reducible refine AR.wr ?_)
      | ((with_reducible intro w3 e3); try have z3 := cutLe e3)
      | ((with_reducible intro h3); have h4 := Nat.le_of_lt h3; clear h4)))
    all_goals
      intro hw
      refine ⟨?_, hw⟩
      simp only [dmgT, hx, if_true]
      rfl

end Go.Proofs.YtgopcppegjhmiaaDoor

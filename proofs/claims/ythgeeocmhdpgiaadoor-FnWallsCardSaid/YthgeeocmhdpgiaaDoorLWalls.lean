/- FnWalls returns true for every argument and leaves its argument as it was. -/
import Derived.Test.YthgeeocmhdpgiaaDoorRows
import Derived.Test.YthgeeocmhdpgiaaDoorFText
import Derived.Test.YthgeeocmhdpgiaaDoorFramesQ
import Derived.Test.YthgeeocmhdpgiaaDoorDraw4
import Derived.Test.YthgeeocmhdpgiaaDoorRlib
import Derived.Test.YthgeeocmhdpgiaaDoorCards
import Derived.Test.YthgeeocmhdpgiaaDoorTie
import Derived.LaidMore
import Derived.Stop.Joined
import Derived.SevenTiedAt
import Derived.Handed
namespace Go.Proofs.YthgeeocmhdpgiaaDoor
open Go Go.X Go.Proofs Go.ChangeShapes Go.WideShapes Go.ChangeAt Go.RowKit
open Go.ChangeMaps (open_string shut_string)
set_option maxHeartbeats 1000000
set_option maxRecDepth 20000
set_option linter.unusedVariables false
set_option linter.unusedSimpArgs false
set_option maxHeartbeats 16000000 in
theorem FnWalls_w (w : World) (ht : Tab w) (a : Option Addr) (n c : Nat) (bs : List Int) (hr : Row w a 1 (bs.map encB)) (hn : bs.length = n) (hm : n ≤ 9223372036854775807) (hby : ∀ y ∈ bs, 0 ≤ y ∧ y ≤ 255) :
    Calls Tryd.prog 4 #[.slice a n c] w fun e w' => e = .returned (.bool true) ∧ E0 w w' := by
  refine enterK Non 361 Tryd.func4 rfl rfl rfl fun K hK => ?_
  by_cases hbig : (65536 : Int) < n
  · repeat (any_goals (
      conv => whnf
      first
      | ((with_reducible refine callF (g := 8) ?_ ?_); kernel_rfl; refine ⟨_, rBig_c _ _ _ _, ?_⟩; intro w4 e4; have z4 := cutLe e4)
      | ((with_reducible refine BIF.s (fun h => absurd h ?_) (fun _ => ?_)); focus (first | (simp; done) | (simp; omega)))
      | ((with_reducible refine BIF.s (fun _ => ?_) (fun h => absurd h ?_)); rotate_left; focus (first | (simp; done) | (simp; omega)))
      | ((with_reducible refine BIF.dec ?_ ?_) <;> intro _)
      | ((with_reducible refine BIF.s ?_ ?_) <;> intro _)
      | (with_reducible refine NEXTK.normal ?_)
      | (with_reducible refine NEXTK.ret ?_)
      | (with_reducible refine NEXTK.exit ?_)
      | (with_reducible refine SEQ.plain ?_)
      | (with_reducible refine hK _ _ ?_)
      | ((with_reducible refine RUNL.agg (fun _ => ?_) ?_); (focus kernel_rfl))
      | (with_reducible refine RUNL.run ?_)
      | ((with_reducible refine AR.ok ?_ ?_); exact ⟨by first | omega | (dsimp only; omega), by first | omega | (dsimp only; omega)⟩)
      | (with_reducible refine AR.wr ?_)
      | ((with_reducible intro w3 e3); try have z3 := cutLe e3)
      | ((with_reducible intro h3); have h4 := Nat.le_of_lt h3; clear h4)))
    intro hx
    exact ⟨rfl, hx⟩
  · have hsm : n ≤ 65536 := by omega
    repeat (any_goals (
      conv => whnf
      first
      | ((with_reducible refine callF (g := 8) ?_ ?_); kernel_rfl; refine ⟨_, rBig_c _ _ _ _, ?_⟩; intro w4 e4; have z4 := cutLe e4)
      | ((with_reducible refine BIF.s (fun h => absurd h ?_) (fun _ => ?_)); focus (first | (simp; done) | (simp; omega)))
      | ((with_reducible refine BIF.s (fun _ => ?_) (fun h => absurd h ?_)); rotate_left; focus (first | (simp; done) | (simp; omega)))
      | ((with_reducible refine callS (g := 9) ?_ ?_); kernel_rfl; refine ⟨_, DrawWallsFor_c _ _ _ bs _ (by repeat (first | assumption | refine Row.e0 ?_ (by assumption) | (refine Row.box (by assumption) (by assumption) (fun k hk h => notBk hk h (Nat.le_refl _)) ?_))) hn hsm hby, ?_⟩; intro r5 w5 e5 h5; have z6 := cutLe e5; obtain ⟨s5, xs, i1, i2, i3, rfl, hi1, hi2, hi3, hl5, hf5, o5⟩ := h5; obtain ⟨bl, dl, rfl, ql, pl⟩ := o5.rowx; have hbT := wallsP_len xs i1 i2 i3)
      | ((with_reducible refine callS (g := 10) ?_ ?_); kernel_rfl; refine ⟨_, WallsFor_c _ _ _ xs _ _ _ _ (by repeat (first | assumption | refine Row.e0 ?_ (by assumption) | (refine Row.box (by assumption) (by assumption) (fun k hk h => notBk hk h (Nat.le_refl _)) ?_))) rfl (by omega), ?_⟩; intro r5 w5 e5 h5; have z6 := cutLe e5; obtain ⟨s5, rfl, o6⟩ := h5; obtain ⟨bw, dw, rfl, qw, pw⟩ := o6.rowx)
      | ((with_reducible refine callS (g := 11) ?_ ?_); kernel_rfl; refine ⟨_, WallsForS_c _ _ _ xs _ _ _ _ (by repeat (first | assumption | refine Row.e0 ?_ (by assumption) | (refine Row.box (by assumption) (by assumption) (fun k hk h => notBk hk h (Nat.le_refl _)) ?_))) rfl (by omega), ?_⟩; intro r5 w5 e5 h5; have z6 := cutLe e5; obtain ⟨s5, rfl, o5⟩ := h5; obtain ⟨b5, d5, rfl, q5, p5⟩ := o5.rowx)
      | ((with_reducible refine callF (g := 12) ?_ ?_); kernel_rfl; refine ⟨_, rInts_c _ _ _ _ _ _ _ _ _ (by repeat (first | assumption | refine Row.e0 ?_ (by assumption) | (refine Row.box (by assumption) (by assumption) (fun k hk h => notBk hk h (Nat.le_refl _)) ?_))) (by repeat (first | assumption | refine Row.e0 ?_ (by assumption) | (refine Row.box (by assumption) (by assumption) (fun k hk h => notBk hk h (Nat.le_refl _)) ?_))) rfl rfl (by omega) (by omega), ?_⟩; intro w4 e4; have z4 := cutLe e4)
      | ((with_reducible refine BIF.dec ?_ ?_) <;> intro _)
      | ((with_reducible refine BIF.s ?_ ?_) <;> intro _)
      | (with_reducible refine NEXTK.normal ?_)
      | (with_reducible refine NEXTK.ret ?_)
      | (with_reducible refine NEXTK.exit ?_)
      | (with_reducible refine SEQ.plain ?_)
      | (with_reducible refine hK _ _ ?_)
      | ((with_reducible refine RUNL.agg (fun _ => ?_) ?_); (focus kernel_rfl))
      | (with_reducible refine RUNL.run ?_)
      | ((with_reducible refine AR.ok ?_ ?_); exact ⟨by first | omega | (dsimp only; omega), by first | omega | (dsimp only; omega)⟩)
      | (with_reducible refine AR.wr ?_)
      | ((with_reducible intro w3 e3); try have z3 := cutLe e3)
      | ((with_reducible intro h3); have h4 := Nat.le_of_lt h3; clear h4)))
    have rl4 : Row w4 bl 5 (xs.map encFrm) := (by repeat (first | assumption | refine Row.e0 ?_ (by assumption) | (refine Row.box (by assumption) (by assumption) (fun k hk h => notBk hk h (Nat.le_refl _)) ?_)))
    have rw4 : Row w4 bw 1 ((wallsP xs i1 i2 i3).1.map encI) := (by repeat (first | assumption | refine Row.e0 ?_ (by assumption) | (refine Row.box (by assumption) (by assumption) (fun k hk h => notBk hk h (Nat.le_refl _)) ?_)))
    have hlaw := fun h => @walls_law xs i1 i2 i3 h
    conv => whnf
    refine LOOP.mk Nat (fun k => [(11, .v (.int .i64 ((k : Int) + 1)))]) (fun k wr => k ≤ 4 ∧ Row wr bl 5 (xs.map encFrm) ∧ Row wr bw 1 ((wallsP xs i1 i2 i3).1.map encI)) (fun k => 4 - k) 0 rfl ⟨rfl, trivial⟩ ⟨Nat.zero_le _, rl4, rw4⟩ ?_
    rintro k wr hXr ⟨hk, hrl, hrw⟩
    have rb := hr.ext hXr (mAddr_Non _)
    have ht2 : Tab wr := TabIs.e0 ht hXr
    clear hXr
    by_cases hgo : k < 4 ∧ (wallsP xs i1 i2 i3).2 = true
    · obtain ⟨hgo1, hgo2⟩ := hgo
      obtain ⟨k1, k2⟩ := hlaw hgo2 ((k : Int) + 1) (by omega) (by omega)
      repeat (any_goals (
        conv => whnf
        first
        | ((with_reducible refine BIF.s (fun h => absurd h ?_) (fun _ => ?_)); focus (simp [hgo2]; done))
        | ((with_reducible refine BIF.s (fun _ => ?_) (fun h => absurd h ?_)); rotate_left; focus (simp [hgo2]; done))
        | ((with_reducible refine BIF.dec ?_ ?_) <;> intro _)
        | ((exfalso; omega))
        | ((with_reducible refine callF (g := 13) ?_ ?_); kernel_rfl; refine ⟨_, RoomFor_c _ _ _ xs _ _ _ _ (by repeat (first | assumption | refine Row.e0 ?_ (by assumption) | (refine Row.box (by assumption) (by assumption) (fun k hk h => notBk hk h (Nat.le_refl _)) ?_))) rfl (by omega), ?_⟩; intro w4 e4; have z4 := cutLe e4)
        | ((with_reducible refine callF (g := 14) ?_ ?_); kernel_rfl; refine ⟨_, rHas_c _ _ _ _ _ _ (by repeat (first | assumption | refine Row.e0 ?_ (by assumption) | (refine Row.box (by assumption) (by assumption) (fun k hk h => notBk hk h (Nat.le_refl _)) ?_))) rfl (by omega), ?_⟩; intro w4 e4; have z4 := cutLe e4)
        | ((with_reducible refine BIF.s (fun h => absurd h ?_) (fun _ => ?_)); focus (simp [k1]; done))
        | ((with_reducible refine BIF.s (fun _ => ?_) (fun h => absurd h ?_)); rotate_left; focus (simp [k1]; done))
        | ((with_reducible refine BIF.s (fun h => absurd h ?_) (fun _ => ?_)); focus (simp [k2]; done))
        | ((with_reducible refine BIF.s (fun _ => ?_) (fun h => absurd h ?_)); rotate_left; focus (simp [k2]; done))
        | ((with_reducible refine BIF.s (fun h => absurd h ?_) (fun _ => ?_)); focus (first | (simp; done) | (simp; omega)))
        | ((with_reducible refine BIF.s (fun _ => ?_) (fun h => absurd h ?_)); rotate_left; focus (first | (simp; done) | (simp; omega)))
        | ((with_reducible refine BIF.dec ?_ ?_) <;> intro _)
        | ((with_reducible refine BIF.s ?_ ?_) <;> intro _)
        | (with_reducible refine NEXTK.normal ?_)
        | (with_reducible refine NEXTK.ret ?_)
        | (with_reducible refine NEXTK.exit ?_)
        | (with_reducible refine SEQ.plain ?_)
        | (with_reducible refine hK _ _ ?_)
        | ((with_reducible refine RUNL.agg (fun _ => ?_) ?_); (focus kernel_rfl))
        | (with_reducible refine RUNL.run ?_)
        | ((with_reducible refine AR.ok ?_ ?_); exact ⟨by first | omega | (dsimp only; omega), by first | omega | (dsimp only; omega)⟩)
        | (with_reducible refine AR.wr ?_)
        | ((with_reducible intro w3 e3); try have z3 := cutLe e3)
        | ((with_reducible intro h3); have h4 := Nat.le_of_lt h3; clear h4)))
      all_goals
        exact ⟨k + 1, rfl, ⟨rfl, trivial⟩, rfl, rfl, ⟨by omega, (by repeat (first | assumption | refine Row.e0 ?_ (by assumption) | (refine Row.box (by assumption) (by assumption) (fun k hk h => notBk hk h (Nat.le_refl _)) ?_))), (by repeat (first | assumption | refine Row.e0 ?_ (by assumption) | (refine Row.box (by assumption) (by assumption) (fun k hk h => notBk hk h (Nat.le_refl _)) ?_)))⟩, by omega⟩
    · repeat (any_goals (
        conv => whnf
        first
        | ((with_reducible refine BIF.s (fun (h : (wallsP xs i1 i2 i3).2 = true) => absurd ⟨by omega, h⟩ hgo) (fun _ => ?_)))
        | ((with_reducible refine callS (g := 15) ?_ ?_); kernel_rfl; refine ⟨_, DrawTakeDown_c _ _ _ bs _ (by repeat (first | assumption | refine Row.e0 ?_ (by assumption) | (refine Row.box (by assumption) (by assumption) (fun k hk h => notBk hk h (Nat.le_refl _)) ?_))) hn hsm hby, ?_⟩; intro r5 w5 e5 h5; have z6 := cutLe e5; obtain ⟨s5, ls, j1, j2, rfl, hj1, hj2, hl6, hf6, o6⟩ := h5; obtain ⟨ba, da, rfl, qa, pa⟩ := o6.rowx; have hbU := takeP_len ls j1 j2)
        | ((with_reducible refine callS (g := 16) ?_ ?_); kernel_rfl; refine ⟨_, TakeDown_c _ _ _ ls _ _ _ (by repeat (first | assumption | refine Row.e0 ?_ (by assumption) | (refine Row.box (by assumption) (by assumption) (fun k hk h => notBk hk h (Nat.le_refl _)) ?_))) rfl (by omega), ?_⟩; intro r5 w5 e5 h5; have z6 := cutLe e5; obtain ⟨s5, rfl, o7⟩ := h5; obtain ⟨bt, dt, rfl, qt, pt⟩ := o7.rowx)
        | ((with_reducible refine callS (g := 17) ?_ ?_); kernel_rfl; refine ⟨_, TakeDownS_c _ _ _ ls _ _ _ (by repeat (first | assumption | refine Row.e0 ?_ (by assumption) | (refine Row.box (by assumption) (by assumption) (fun k hk h => notBk hk h (Nat.le_refl _)) ?_))) rfl (by omega), ?_⟩; intro r5 w5 e5 h5; have z6 := cutLe e5; obtain ⟨s5, rfl, o5⟩ := h5; obtain ⟨b5, d5, rfl, q5, p5⟩ := o5.rowx)
        | ((with_reducible refine callF (g := 18) ?_ ?_); kernel_rfl; refine ⟨_, rFrames_c _ _ _ _ _ _ _ _ _ (by repeat (first | assumption | refine Row.e0 ?_ (by assumption) | (refine Row.box (by assumption) (by assumption) (fun k hk h => notBk hk h (Nat.le_refl _)) ?_))) (by repeat (first | assumption | refine Row.e0 ?_ (by assumption) | (refine Row.box (by assumption) (by assumption) (fun k hk h => notBk hk h (Nat.le_refl _)) ?_))) rfl rfl (by omega) (by omega), ?_⟩; intro w4 e4; have z4 := cutLe e4)
        | ((with_reducible refine BIF.s (fun (hok : (takeP ls j1 j2).2 = true) => ?_) (fun hok => ?_)); obtain ⟨g1, g2, g3, g4, g5, g6⟩ := take_law hok)
        | ((with_reducible refine callS (g := 19) ?_ ?_); kernel_rfl; refine ⟨_, HangingOn_c _ _ _ (takeP ls j1 j2).1 _ _ (by repeat (first | assumption | refine Row.e0 ?_ (by assumption) | (refine Row.box (by assumption) (by assumption) (fun k hk h => notBk hk h (Nat.le_refl _)) ?_))) rfl (by omega), ?_⟩; intro r5 w5 e5 h5; have z6 := cutLe e5; obtain ⟨s5, rfl, o5⟩ := h5; obtain ⟨b5, d5, rfl, q5, p5⟩ := o5.rowx ; (have hbH := hangingP_len (takeP ls j1 j2).1 j2) ; (have hbH2 := hangingP_len (takeP ls j1 j2).1 (j2 + 1)))
        | ((with_reducible refine callF (g := 14) ?_ ?_); kernel_rfl; refine ⟨_, rHas_c _ _ _ _ _ _ (by repeat (first | assumption | refine Row.e0 ?_ (by assumption) | (refine Row.box (by assumption) (by assumption) (fun k hk h => notBk hk h (Nat.le_refl _)) ?_))) rfl (by omega), ?_⟩; intro w4 e4; have z4 := cutLe e4)
        | ((with_reducible refine BIF.s (fun h => absurd h ?_) (fun _ => ?_)); focus (simp [g4]; done))
        | ((with_reducible refine BIF.s (fun _ => ?_) (fun h => absurd h ?_)); rotate_left; focus (simp [g4]; done))
        | ((with_reducible refine BIF.s (fun h => absurd h ?_) (fun _ => ?_)); focus (simp [g1]; done))
        | ((with_reducible refine BIF.s (fun _ => ?_) (fun h => absurd h ?_)); rotate_left; focus (simp [g1]; done))
        | ((with_reducible refine BIF.s (fun h => absurd h ?_) (fun _ => ?_)); focus (simp [g2]; done))
        | ((with_reducible refine BIF.s (fun _ => ?_) (fun h => absurd h ?_)); rotate_left; focus (simp [g2]; done))
        | ((with_reducible refine BIF.s (fun h => absurd h ?_) (fun _ => ?_)); focus (simp [g3]; done))
        | ((with_reducible refine BIF.s (fun _ => ?_) (fun h => absurd h ?_)); rotate_left; focus (simp [g3]; done))
        | ((with_reducible refine BIF.s (fun h => absurd h ?_) (fun _ => ?_)); focus (first | (simp; done) | (simp; omega)))
        | ((with_reducible refine BIF.s (fun _ => ?_) (fun h => absurd h ?_)); rotate_left; focus (first | (simp; done) | (simp; omega)))
        | ((with_reducible refine callF (g := 20) ?_ ?_); kernel_rfl; refine ⟨_, BusiestDay_c _ _ _ ls _ (by repeat (first | assumption | refine Row.e0 ?_ (by assumption) | (refine Row.box (by assumption) (by assumption) (fun k hk h => notBk hk h (Nat.le_refl _)) ?_))) rfl (by omega), ?_⟩; intro w4 e4; have z4 := cutLe e4)
        | ((with_reducible refine callF (g := 21) ?_ ?_); kernel_rfl; refine ⟨_, BusiestDayS_c _ _ _ ls _ (by repeat (first | assumption | refine Row.e0 ?_ (by assumption) | (refine Row.box (by assumption) (by assumption) (fun k hk h => notBk hk h (Nat.le_refl _)) ?_))) rfl (by omega), ?_⟩; intro w4 e4; have z4 := cutLe e4)
        | ((with_reducible refine BIF.dec ?_ ?_) <;> intro _)
        | ((with_reducible refine BIF.s ?_ ?_) <;> intro _)
        | (with_reducible refine NEXTK.normal ?_)
        | (with_reducible refine NEXTK.ret ?_)
        | (with_reducible refine NEXTK.exit ?_)
        | (with_reducible refine SEQ.plain ?_)
        | (with_reducible refine hK _ _ ?_)
        | ((with_reducible refine RUNL.agg (fun _ => ?_) ?_); (focus kernel_rfl))
        | (with_reducible refine RUNL.run ?_)
        | ((with_reducible refine AR.ok ?_ ?_); exact ⟨by first | omega | (dsimp only; omega), by first | omega | (dsimp only; omega)⟩)
        | (with_reducible refine AR.wr ?_)
        | ((with_reducible intro w3 e3); try have z3 := cutLe e3)
        | ((with_reducible intro h3); have h4 := Nat.le_of_lt h3; clear h4)))
      all_goals
        have ra4 : Row w4 ba 5 (ls.map encFrm) := (by repeat (first | assumption | refine Row.e0 ?_ (by assumption) | (refine Row.box (by assumption) (by assumption) (fun k hk h => notBk hk h (Nat.le_refl _)) ?_)))
        have rb4 : Row w4 a 1 (bs.map encB) := (by repeat (first | assumption | refine Row.e0 ?_ (by assumption) | (refine Row.box (by assumption) (by assumption) (fun k hk h => notBk hk h (Nat.le_refl _)) ?_)))
        have hlaw2 := fun h => @busy_law ls h
        clear rb hrl hrw rl4 rw4 hlaw
        conv => whnf
        refine LOOP.mk Nat (fun k => [(31, .v (.int .i64 k))]) (fun k wr => k ≤ ls.length ∧ Row wr ba 5 (ls.map encFrm)) (fun k => ls.length - k) 0 rfl ⟨rfl, trivial⟩ ⟨Nat.zero_le _, ra4⟩ ?_
        rintro q ws hXs ⟨hq, hra⟩
        have rb := hr.ext hXs (mAddr_Non _)
        have ht3 : Tab ws := TabIs.e0 ht hXs
        clear hXs
        by_cases hgo2 : q < ls.length ∧ (busyP ls).2.2 = true
        · obtain ⟨hgo3, hgo4⟩ := hgo2
          obtain ⟨x, hx⟩ : ∃ x, ls[q]? = some x := ⟨ls[q]'hgo3, by simp⟩
          obtain ⟨m1, m2⟩ := (hlaw2 hgo4).2 x (List.mem_of_getElem? hx)
          have his := hra.isSome (by simp; omega)
          have hbH3 := hangingP_len ls x.fUntil
          repeat (any_goals (
            conv => whnf
            first
            | ((with_reducible refine BIF.s (fun h => absurd h ?_) (fun _ => ?_)); focus (simp [hgo4]; done))
            | ((with_reducible refine BIF.s (fun _ => ?_) (fun h => absurd h ?_)); rotate_left; focus (simp [hgo4]; done))
            | ((with_reducible refine OBL.mk ?_ (fun _ => ?_)); exact ⟨by first | omega | (dsimp only; omega), by first | omega | (dsimp only; omega), his⟩)
            | ((with_reducible refine ELD.atNow (enc := encFrm) (xs := ls) q hra rfl hgo3 (fun x' hx' => ?_)); obtain rfl : x = x' := by (rw [hx] at hx'; exact Option.some.inj hx'))
            | ((with_reducible refine callS (g := 19) ?_ ?_); kernel_rfl; refine ⟨_, HangingOn_c _ _ _ ls _ _ (by repeat (first | assumption | refine Row.e0 ?_ (by assumption) | (refine Row.box (by assumption) (by assumption) (fun k hk h => notBk hk h (Nat.le_refl _)) ?_))) rfl (by omega), ?_⟩; intro r5 w5 e5 h5; have z6 := cutLe e5; obtain ⟨s5, rfl, o5⟩ := h5; obtain ⟨b5, d5, rfl, q5, p5⟩ := o5.rowx)
            | ((with_reducible refine BIF.s (fun h => absurd h ?_) (fun _ => ?_)); focus (simp [m1]; done))
            | ((with_reducible refine BIF.s (fun _ => ?_) (fun h => absurd h ?_)); rotate_left; focus (simp [m1]; done))
            | ((with_reducible refine BIF.dec ?_ ?_) <;> intro _)
            | ((exfalso; omega))
            | ((with_reducible refine BIF.dec ?_ ?_) <;> intro _)
            | ((with_reducible refine BIF.s ?_ ?_) <;> intro _)
            | (with_reducible refine NEXTK.normal ?_)
            | (with_reducible refine NEXTK.ret ?_)
            | (with_reducible refine NEXTK.exit ?_)
            | (with_reducible refine SEQ.plain ?_)
            | (with_reducible refine hK _ _ ?_)
            | ((with_reducible refine RUNL.agg (fun _ => ?_) ?_); (focus kernel_rfl))
            | (with_reducible refine RUNL.run ?_)
            | ((with_reducible refine AR.ok ?_ ?_); exact ⟨by first | omega | (dsimp only; omega), by first | omega | (dsimp only; omega)⟩)
            | (with_reducible refine AR.wr ?_)
            | ((with_reducible intro w3 e3); try have z3 := cutLe e3)
            | ((with_reducible intro h3); have h4 := Nat.le_of_lt h3; clear h4)))
          all_goals
            exact ⟨q + 1, rfl, ⟨rfl, trivial⟩, rfl, rfl, ⟨by omega, (by repeat (first | assumption | refine Row.e0 ?_ (by assumption) | (refine Row.box (by assumption) (by assumption) (fun k hk h => notBk hk h (Nat.le_refl _)) ?_)))⟩, by omega⟩
        · repeat (any_goals (
            conv => whnf
            first
            | ((with_reducible refine BIF.s (fun (h : (busyP ls).2.2 = true) => absurd ⟨by omega, h⟩ hgo2) (fun _ => ?_)))
            | ((with_reducible refine callS (g := 22) ?_ ?_); kernel_rfl; refine ⟨_, DrawFirstRoom_c _ _ _ bs _ (by repeat (first | assumption | refine Row.e0 ?_ (by assumption) | (refine Row.box (by assumption) (by assumption) (fun k hk h => notBk hk h (Nat.le_refl _)) ?_))) hn hsm hby, ?_⟩; intro r5 w5 e5 h5; have z6 := cutLe e5; obtain ⟨s5, us, u1, u2, u3, u4, rfl, hu1, hu2, hu3, hu4, hl8, hf8, o8⟩ := h5; obtain ⟨bu, du, rfl, qu, pu⟩ := o8.rowx)
            | ((with_reducible refine callF (g := 23) ?_ ?_); kernel_rfl; refine ⟨_, FirstRoom_c _ _ _ us _ _ _ _ _ (by repeat (first | assumption | refine Row.e0 ?_ (by assumption) | (refine Row.box (by assumption) (by assumption) (fun k hk h => notBk hk h (Nat.le_refl _)) ?_))) rfl (by omega), ?_⟩; intro w4 e4; have z4 := cutLe e4)
            | ((with_reducible refine callF (g := 24) ?_ ?_); kernel_rfl; refine ⟨_, FirstRoomS_c _ _ _ us _ _ _ _ _ (by repeat (first | assumption | refine Row.e0 ?_ (by assumption) | (refine Row.box (by assumption) (by assumption) (fun k hk h => notBk hk h (Nat.le_refl _)) ?_))) rfl (by omega), ?_⟩; intro w4 e4; have z4 := cutLe e4)
            | ((with_reducible refine BIF.s (fun (hok2 : (firstP us u1 u2 u3 u4).2 = true) => ?_) (fun hok2 => ?_)); obtain ⟨⟨p1, p2, p3, p4⟩, p5, p6⟩ := first_law hok2)
            | ((with_reducible refine BIF.dec (fun (hlt : u3 < (firstP us u1 u2 u3 u4).1) => ?_) (fun hlt => ?_)); obtain ⟨p7, p8⟩ := p4 hlt)
            | ((with_reducible refine callF (g := 13) ?_ ?_); kernel_rfl; refine ⟨_, RoomFor_c _ _ _ us _ _ _ _ (by repeat (first | assumption | refine Row.e0 ?_ (by assumption) | (refine Row.box (by assumption) (by assumption) (fun k hk h => notBk hk h (Nat.le_refl _)) ?_))) rfl (by omega), ?_⟩; intro w4 e4; have z4 := cutLe e4)
            | ((with_reducible refine BIF.s (fun h => absurd h ?_) (fun _ => ?_)); focus (simp [p1]; done))
            | ((with_reducible refine BIF.s (fun _ => ?_) (fun h => absurd h ?_)); rotate_left; focus (simp [p1]; done))
            | ((with_reducible refine BIF.s (fun h => absurd h ?_) (fun _ => ?_)); focus (simp [p7]; done))
            | ((with_reducible refine BIF.s (fun _ => ?_) (fun h => absurd h ?_)); rotate_left; focus (simp [p7]; done))
            | ((with_reducible refine BIF.s (fun h => absurd h ?_) (fun _ => ?_)); focus (first | (simp; done) | (simp; omega)))
            | ((with_reducible refine BIF.s (fun _ => ?_) (fun h => absurd h ?_)); rotate_left; focus (first | (simp; done) | (simp; omega)))
            | ((with_reducible refine BIF.dec ?_ ?_) <;> intro _)
            | ((exfalso; omega))
            | ((with_reducible refine callS (g := 25) ?_ ?_); kernel_rfl; refine ⟨_, DrawMoveFrame_c _ _ _ bs _ (by repeat (first | assumption | refine Row.e0 ?_ (by assumption) | (refine Row.box (by assumption) (by assumption) (fun k hk h => notBk hk h (Nat.le_refl _)) ?_))) hn hsm hby, ?_⟩; intro r5 w5 e5 h5; have z6 := cutLe e5; obtain ⟨s5, vs, v1, v2, rfl, hv1, hv2, hl9, hf9, o9⟩ := h5; obtain ⟨bv, dv, rfl, qv, pv⟩ := o9.rowx; have hbV := moveP_len vs v1 v2)
            | ((with_reducible refine callS (g := 26) ?_ ?_); kernel_rfl; refine ⟨_, MoveFrame_c _ _ _ vs _ _ _ (by repeat (first | assumption | refine Row.e0 ?_ (by assumption) | (refine Row.box (by assumption) (by assumption) (fun k hk h => notBk hk h (Nat.le_refl _)) ?_))) rfl (by omega), ?_⟩; intro r5 w5 e5 h5; have z6 := cutLe e5; obtain ⟨s5, rfl, o5⟩ := h5; obtain ⟨b5, d5, rfl, q5, p5⟩ := o5.rowx)
            | ((with_reducible refine callS (g := 27) ?_ ?_); kernel_rfl; refine ⟨_, MoveFrameS_c _ _ _ vs _ _ _ (by repeat (first | assumption | refine Row.e0 ?_ (by assumption) | (refine Row.box (by assumption) (by assumption) (fun k hk h => notBk hk h (Nat.le_refl _)) ?_))) rfl (by omega), ?_⟩; intro r5 w5 e5 h5; have z6 := cutLe e5; obtain ⟨s5, rfl, o5⟩ := h5; obtain ⟨b5, d5, rfl, q5, p5⟩ := o5.rowx)
            | ((with_reducible refine callS (g := 28) ?_ ?_); kernel_rfl; refine ⟨_, DrawFrameText_c _ _ _ bs _ (by repeat (first | assumption | refine Row.e0 ?_ (by assumption) | (refine Row.box (by assumption) (by assumption) (fun k hk h => notBk hk h (Nat.le_refl _)) ?_))) hn hsm hby, ?_⟩; intro r5 w5 e5 h5; have z6 := cutLe e5; obtain ⟨y, rfl, hfy⟩ := h5)
            | ((with_reducible refine callX (g := 7) ?_ ?_); kernel_rfl; intro hX; refine ⟨_, FrameText_c y _ (TabIs.e0 ht hX), ?_⟩; intro w4 e4; have z4 := cutLe e4; clear hX)
            | ((with_reducible refine callF (g := 5) ?_ ?_); kernel_rfl; refine ⟨_, FrameTextS_c y _, ?_⟩; intro w4 e4; have z4 := cutLe e4)
            | ((with_reducible refine callF (g := 18) ?_ ?_); kernel_rfl; refine ⟨_, rFrames_c _ _ _ _ _ _ _ _ _ (by repeat (first | assumption | refine Row.e0 ?_ (by assumption) | (refine Row.box (by assumption) (by assumption) (fun k hk h => notBk hk h (Nat.le_refl _)) ?_))) (by repeat (first | assumption | refine Row.e0 ?_ (by assumption) | (refine Row.box (by assumption) (by assumption) (fun k hk h => notBk hk h (Nat.le_refl _)) ?_))) rfl rfl (by omega) (by omega), ?_⟩; intro w4 e4; have z4 := cutLe e4)
            | ((with_reducible refine BIF.s (fun h => absurd h ?_) (fun _ => ?_)); focus (first | (simp; done) | (simp; omega)))
            | ((with_reducible refine BIF.s (fun _ => ?_) (fun h => absurd h ?_)); rotate_left; focus (first | (simp; done) | (simp; omega)))
            | ((with_reducible refine BIF.dec ?_ ?_) <;> intro _)
            | ((exfalso; omega))
            | ((with_reducible refine BIF.s ?_ ?_) <;> intro hok)
            | ((with_reducible refine BIF.dec ?_ ?_) <;> intro _)
            | ((with_reducible refine BIF.s ?_ ?_) <;> intro _)
            | (with_reducible refine NEXTK.normal ?_)
            | (with_reducible refine NEXTK.ret ?_)
            | (with_reducible refine NEXTK.exit ?_)
            | (with_reducible refine SEQ.plain ?_)
            | (with_reducible refine hK _ _ ?_)
            | ((with_reducible refine RUNL.agg (fun _ => ?_) ?_); (focus kernel_rfl))
            | (with_reducible refine RUNL.run ?_)
            | ((with_reducible refine AR.ok ?_ ?_); exact ⟨by first | omega | (dsimp only; omega), by first | omega | (dsimp only; omega)⟩)
            | (with_reducible refine AR.wr ?_)
            | ((with_reducible intro w3 e3); try have z3 := cutLe e3)
            | ((with_reducible intro h3); have h4 := Nat.le_of_lt h3; clear h4)))
          all_goals
            intro hx'
            exact ⟨by simp [resV], hx'⟩

theorem cellsByte {H : Type} {en : TypeId × Value → H} {w : World} {base : Nat} {spare : Nat → Bool} {held : Bool} (n : Nat) (cs : List Value) (x : DataW H × List MemPlace) (hl : cs.length = 1)
    (h : DataW.trod en Tryd.prog w base spare held n 5 cs = some x) : ∃ y : Int, cs = encB y ∧ (0 ≤ y ∧ y ≤ 255) := by
  match cs, hl with
  | [c0], _ =>
    obtain ⟨z0, q0, -, g0⟩ := DataW.trod_int Tryd.underlying5 h
    simp at q0
    subst q0
    simp only [Lit.wf, Bool.and_eq_true, decide_eq_true_eq] at g0
    exact ⟨z0, rfl, g0.1, g0.2⟩

theorem FnWalls_door (os : Os) (args : Array Value) : laidMetH Tryd.prog Rows.fnWallsRow.laid ((World.doorLaid Tryd.prog 400 os).forCall (fun _ _ => 0) ⟨#[], args, []⟩).memory :=
  laidMetH_of_parts3 (fuel := 8) (laidMet_of_run' 8 (by kernel_rfl) (by kernel_rfl)) (by kernel_rfl) (by kernel_rfl)
theorem FnWalls_tab {W : World} (h : laidMetH Tryd.prog Rows.fnWallsRow.laid W) : Tab W := by
  rw [MakeChecks.laidMetH_plain _ _ _ (by kernel_rfl)] at h
  obtain ⟨ps, ⟨g0, t0, cs0, f0, p0, q0, hg0, ht0, hv0, hd0, ⟨g1, t1, cs1, f1, p1, q1, hg1, ht1, hv1, hd1, ⟨g2, t2, cs2, f2, p2, q2, hg2, ht2, hv2, hd2, _, _⟩, _⟩, _⟩, _, _⟩ := h
  obtain rfl := Option.some.inj ((show Tryd.prog.globalNamed "internal/strconv.uint64pow10" = some 0 by kernel_rfl).symm.trans hg2)
  obtain rfl := Option.some.inj ((show (Tryd.prog.globals[0]?).map (·.type) = some 91 by kernel_rfl).symm.trans ht2)
  unfold Tab Lib.TabIs
  rw [hv2]
  obtain ⟨cs⟩ := cs2
  have e := Lib.cells_of_tab (n := 20) (k := .u64) (zs := Lib.pow10Tab) Tryd.underlying91 Tryd.underlying56 (by kernel_rfl) (by kernel_rfl) hd2
  exact congrArg some (congrArg Array.mk e)
set_option maxRecDepth 100000 in
theorem FnWalls_lifted (os : Os) (started : os.Started) (H : Type) (enc : TypeId × Value → H) :
    ReturnsInHanded {} Tryd.checked os 4 .any (fun w args => (Rows.fnWallsSpec.pre enc Tryd.prog Tryd.f4 [] false w args ∧ laidMetH Tryd.prog Rows.fnWallsRow.laid w) ∧ sizedMet enc Tryd.prog Tryd.f4 (OpenSpec.ofChange Rows.fnWallsSpec) false w args)
      (Rows.fnWallsSpec.post enc Tryd.prog Tryd.f4 false true false false) := by
  refine returnsInHanded_of_change_and (C := Tryd.checked) (X := fun w _ => laidMetH Tryd.prog Rows.fnWallsRow.laid w) (fun _ _ _ hh h => h.of_heap hh) own started (by kernel_rfl) Tryd.func4
    (ChangeSpec.witness_shaped (enc := enc) (C := Tryd.checked) (os := os) (X := fun w _ => laidMetH Tryd.prog Rows.fnWallsRow.laid w) false (World.doorLaid Tryd.prog 400 os) #[.slice none 0 0] 8 rfl (World.shaped_of_RefB (by kernel_rfl) (by kernel_rfl)) (by kernel_rfl) (by kernel_rfl) (by kernel_rfl) (FnWalls_door os _)) ?_
  intro W base args ds gs before hval0 hW _ _ hL _
  have hval : ∀ (j : Nat) t v, Tryd.f4.params[j]? = some t → args[j]? = some v → Value.okWide Tryd.prog W .any base t v := hval0
  have hW' := hW
  obtain ⟨p, q, hA0, hV, rfl, hfz, hnd⟩ := hW
  have hA : DataW.TrodAll enc Tryd.prog W 0 (fun _ => true) true Tryd.f4.params.toList args.toList ds p := hA0
  rw [Tryd.params4] at hA hval
  obtain ⟨v0, vs0, d0, ds0, p0, q0, hargs, rfl, rfl, h0, r0⟩ := trodAll_cons hA
  obtain ⟨rfl, rfl, rfl⟩ := trodAll_nil r0
  obtain rfl : args = #[v0] := by cases args; simp_all
  obtain ⟨rfl, rfl⟩ := trodVars_none hV
  obtain ⟨a0, n0, c0, rfl⟩ := okWide_slice Tryd.underlying29 (hval 0 29 v0 rfl rfl)
  have k0 := h0
  have lt0 : ∀ x ∈ p0, x.block < W.heap.size := by obtain ⟨m, hm⟩ := k0; exact DataW.trod_lt m _ _ _ hm
  obtain ⟨xs0, w0, l0, b0, g0⟩ := open_rows Tryd.underlying29 (by kernel_rfl) cellsByte h0
  clear hA0 hval0
  refine (FnWalls_w W (FnWalls_tab hL) a0 n0 c0 xs0 w0 l0 b0 g0).mono fun e W' ⟨he, x⟩ => ?_
  subst he
  have bel := x.toBelow
  exact ⟨_, rfl, _, _, _, [], _, [], hW', trodAll_mk1 (shut_bool Tryd.underlying4 _), (trodAll_cons_mk (Below.trod laidOut (by kernel_rfl) (of_decide_eq_true (by kernel_rfl)) k0 bel lt0) trodAll_mk0), rfl, bel.frame _, fun h => by cases h⟩
theorem FnWalls_row : Rows.fnWallsRow.holds Tryd.pinned (OpenSpec.ofChange Rows.fnWallsSpec) :=
  OpenClaim.holds_of_wide 4 Tryd.f4 rfl rfl rfl rfl rfl rfl rfl ⟨rfl, rfl, rfl, rfl, rfl⟩ rfl rfl rfl rfl rfl (by kernel_rfl) Tryd.func4 (by kernel_rfl)
    (of_decide_eq_true (by kernel_rfl)) (by unfold Func.isWrapper; first | (rw [if_pos (by decide +kernel)]; kernel_rfl) | (rw [if_neg (by decide +kernel)]; exact ⟨rfl, rfl⟩))
    (fun os started H enc _ => FnWalls_lifted os started H enc)
theorem FnWalls_holds : Rows.FnWallsCardSaid :=
  Claim7.holds_tied_plain_at .later [] [.data, .data, .data] true (true, "33e0f06fe8539075aa2256f5ab50e973bcd9a34a5d4bce7134dbb8e1f48b041c") false
    FnWalls_row (fun _ h => by cases h) (by kernel_rfl) (fun _ h => by cases h) fnWalls_row_tie rfl ⟨rfl, rfl⟩ (by kernel_rfl) rfl
    (fun f fn hf hfn => by
      obtain rfl : f = 4 := Option.some.inj ((show Tryd.prog.funcNamed Rows.fnWallsRow.func = some 4 by kernel_rfl).symm.trans hf) |>.symm
      obtain rfl : fn = Tryd.f4 := (Option.some.inj (Tryd.func4.symm.trans hfn)).symm
      exact ⟨by kernel_rfl, fun j t ht => by
        rw [Tryd.params4] at ht
        have hm : t ∈ [29] := by simpa using Array.mem_of_getElem? ht
        have hall : ([29].all fun u => !Tryd.prog.wantsStandIn u) = true := by kernel_rfl
        exact (show Tryd.prog.wantsStandIn t = false by simpa using List.all_eq_true.1 hall t hm)⟩)
    (by kernel_rfl)
end Go.Proofs.YthgeeocmhdpgiaaDoor

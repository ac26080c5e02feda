/- FnThanks returns true for every argument and leaves its argument as it was. -/
import Derived.Test.YtohnoccmaeegdaaGreatDoorRows
import Derived.Test.YtohnoccmaeegdaaGreatDoorGText
import Derived.Test.YtohnoccmaeegdaaGreatDoorGiftsQ
import Derived.Test.YtohnoccmaeegdaaGreatDoorDraw4
import Derived.Test.YtohnoccmaeegdaaGreatDoorRlib
import Derived.Test.YtohnoccmaeegdaaGreatDoorCards
import Derived.Test.YtohnoccmaeegdaaGreatDoorTie
import Derived.LaidMore
import Derived.Stop.Joined
import Derived.SevenTiedAt
import Derived.Handed
namespace Go.Proofs.YtohnoccmaeegdaaGreatDoor
open Go Go.X Go.Proofs Go.ChangeShapes Go.WideShapes Go.ChangeAt Go.RowKit
open Go.ChangeMaps (open_string shut_string)
set_option maxHeartbeats 1000000
set_option maxRecDepth 20000
set_option linter.unusedVariables false
set_option linter.unusedSimpArgs false
set_option maxHeartbeats 4000000 in
theorem FnThanks_w (w : World) (ht : Tab w) (a : Option Addr) (n c : Nat) (bs : List Int) (hr : Row w a 1 (bs.map encB)) (hn : bs.length = n) (hm : n ≤ 9223372036854775807) (hby : ∀ y ∈ bs, 0 ≤ y ∧ y ≤ 255) :
    Calls Tryz.prog 3 #[.slice a n c] w fun e w' => e = .returned (.bool true) ∧ E0 w w' := by
  refine enterK Non 268 Tryz.func3 rfl rfl rfl fun K hK => ?_
  by_cases hbig : (65536 : Int) < n
  · repeat (any_goals (
      conv => whnf
      first
      | ((with_reducible refine callF (g := 4) ?_ ?_); kernel_rfl; refine ⟨_, rBig_c _ _ _ _, ?_⟩; intro w4 e4; have z4 := cutLe e4)
      | ((with_reducible refine BIF.s (fun h => absurd h ?_) (fun _ => ?_)); focus (first | (simp; done) | (simp; omega)))
      | ((with_reducible refine BIF.s (fun _ => ?_) (fun h => absurd h ?_)); rotate_left; focus (first | (simp; done) | (simp; omega)))
      | ((with_reducible refine BIF.dec ?_ ?_) <;> intro _)
      | ((with_reducible refine BIF.s ?_ ?_) <;> intro _)
      | (with_reducible refine NEXTK.normal ?_)
      | (with_reducible refine NEXTK.ret ?_)
      | (with_reducible refine NEXTK.exit ?_)
      | (with_reducible refine SEQ.plain ?_)
      | (with_reducible refine hK _ _ ?_)
      | ((with_reducible refine RUNL.agg (fun _ => ?_) ?_); (focus kernel_rfl))
      | (with_reducible refine RUNL.run ?_)
      | ((with_reducible refine AR.ok ?_ ?_); exact ⟨by first | omega | (dsimp only; omega), by first | omega | (dsimp only; omega)⟩)
      | (with_reducible refine AR.wr ?_)
      | ((with_reducible intro w3 e3); try have z3 := cutLe e3)
      | ((with_reducible intro h3); have h4 := Nat.le_of_lt h3; clear h4)))
    intro hx
    exact ⟨rfl, hx⟩
  · have hsm : n ≤ 65536 := by omega
    repeat (any_goals (
      conv => whnf
      first
      | ((with_reducible refine callF (g := 4) ?_ ?_); kernel_rfl; refine ⟨_, rBig_c _ _ _ _, ?_⟩; intro w4 e4; have z4 := cutLe e4)
      | ((with_reducible refine BIF.s (fun h => absurd h ?_) (fun _ => ?_)); focus (first | (simp; done) | (simp; omega)))
      | ((with_reducible refine BIF.s (fun _ => ?_) (fun h => absurd h ?_)); rotate_left; focus (first | (simp; done) | (simp; omega)))
      | ((with_reducible refine callS (g := 5) ?_ ?_); kernel_rfl; refine ⟨_, DrawThanksAll_c _ _ _ bs _ (by repeat (first | assumption | refine Row.e0 ?_ (by assumption) | (refine Row.box (by assumption) (by assumption) (fun k hk h => notBk hk h (Nat.le_refl _)) ?_))) hn hsm hby, ?_⟩; intro r5 w5 e5 h5; have z6 := cutLe e5; obtain ⟨s5, xs, g, i1, rfl, hg, hi1, hl5, hf5, o5⟩ := h5; obtain ⟨bx, dx, rfl, qx, px⟩ := o5.rowx; have hgx : ∀ x ∈ xs, x.fGiver.size ≤ 9223372036854775807 := (fun x hx => (hf5 x hx).2.1); have hbA := thkP_len xs g i1)
      | ((with_reducible refine callS (g := 6) ?_ ?_); kernel_rfl; refine ⟨_, ThanksAll_c _ _ _ xs g i1 _ (by repeat (first | assumption | refine Row.e0 ?_ (by assumption) | (refine Row.box (by assumption) (by assumption) (fun k hk h => notBk hk h (Nat.le_refl _)) ?_))) rfl (by omega), ?_⟩; intro r5 w5 e5 h5; have z6 := cutLe e5; obtain ⟨s5, rfl, oA⟩ := h5; obtain ⟨bA, dA, rfl, qA, pA⟩ := oA.rowx)
      | ((with_reducible refine callS (g := 7) ?_ ?_); kernel_rfl; refine ⟨_, ThanksAllS_c _ _ _ xs g i1 _ (by repeat (first | assumption | refine Row.e0 ?_ (by assumption) | (refine Row.box (by assumption) (by assumption) (fun k hk h => notBk hk h (Nat.le_refl _)) ?_))) rfl (by omega) hgx (by omega), ?_⟩; intro r5 w5 e5 h5; have z6 := cutLe e5; obtain ⟨s5, rfl, o5⟩ := h5; obtain ⟨b5, d5, rfl, q5, p5⟩ := o5.rowx)
      | ((with_reducible refine callF (g := 8) ?_ ?_); kernel_rfl; refine ⟨_, rGifts_c _ _ _ _ _ _ _ _ _ (by repeat (first | assumption | refine Row.e0 ?_ (by assumption) | (refine Row.box (by assumption) (by assumption) (fun k hk h => notBk hk h (Nat.le_refl _)) ?_))) (by repeat (first | assumption | refine Row.e0 ?_ (by assumption) | (refine Row.box (by assumption) (by assumption) (fun k hk h => notBk hk h (Nat.le_refl _)) ?_))) rfl rfl (by omega) (by omega), ?_⟩; intro w4 e4; have z4 := cutLe e4)
      | ((with_reducible refine BIF.s (fun (hok : (thkP xs g i1).2.2 = true) => ?_) (fun hok => ?_)); have g1 := thk_law hok)
      | ((with_reducible refine BIF.bne (fun h => absurd rfl h) (fun _ => ?_)))
      | ((with_reducible refine BIF.s (fun h => absurd h ?_) (fun _ => ?_)); focus (first | (simp; done) | (simp; omega)))
      | ((with_reducible refine BIF.s (fun _ => ?_) (fun h => absurd h ?_)); rotate_left; focus (first | (simp; done) | (simp; omega)))
      | ((with_reducible refine BIF.dec ?_ ?_) <;> intro _)
      | ((with_reducible refine BIF.s ?_ ?_) <;> intro _)
      | (with_reducible refine NEXTK.normal ?_)
      | (with_reducible refine NEXTK.ret ?_)
      | (with_reducible refine NEXTK.exit ?_)
      | (with_reducible refine SEQ.plain ?_)
      | (with_reducible refine hK _ _ ?_)
      | ((with_reducible refine RUNL.agg (fun _ => ?_) ?_); (focus kernel_rfl))
      | (with_reducible refine RUNL.run ?_)
      | ((with_reducible refine AR.ok ?_ ?_); exact ⟨by first | omega | (dsimp only; omega), by first | omega | (dsimp only; omega)⟩)
      | (with_reducible refine AR.wr ?_)
      | ((with_reducible intro w3 e3); try have z3 := cutLe e3)
      | ((with_reducible intro h3); have h4 := Nat.le_of_lt h3; clear h4)))
    all_goals
      repeat (any_goals (
        conv => whnf
        first
        | ((with_reducible refine callS (g := 6) ?_ ?_); kernel_rfl; refine ⟨_, ThanksAll_c _ _ _ (thkP xs g i1).1 g i1 _ (by repeat (first | assumption | refine Row.e0 ?_ (by assumption) | (refine Row.box (by assumption) (by assumption) (fun k hk h => notBk hk h (Nat.le_refl _)) ?_))) rfl (by omega), ?_⟩; intro r5 w5 e5 h5; have z6 := cutLe e5; obtain ⟨s5, rfl, oB⟩ := h5; rw [g1] at oB; dsimp only at oB; obtain ⟨bB, dB, rfl, qB, pB⟩ := oB.rowx)
        | ((with_reducible refine BIF.s (fun h => absurd h ?_) (fun _ => ?_)); focus (simp [g1]; done))
        | ((with_reducible refine BIF.s (fun _ => ?_) (fun h => absurd h ?_)); rotate_left; focus (simp [g1]; done))
        | ((with_reducible refine BIF.bne (fun h => absurd (by rw [g1]) h) (fun _ => ?_)))
        | ((with_reducible refine callF (g := 8) ?_ ?_); kernel_rfl; refine ⟨_, rGifts_c _ _ _ _ _ _ (thkP xs g i1).1 (thkP xs g i1).1 _ (by repeat (first | assumption | refine Row.e0 ?_ (by assumption) | (refine Row.box (by assumption) (by assumption) (fun k hk h => notBk hk h (Nat.le_refl _)) ?_))) (by repeat (first | assumption | refine Row.e0 ?_ (by assumption) | (refine Row.box (by assumption) (by assumption) (fun k hk h => notBk hk h (Nat.le_refl _)) ?_))) rfl rfl (by omega) (by omega), ?_⟩; intro w4 e4; have z4 := cutLe e4)
        | ((with_reducible refine callS (g := 9) ?_ ?_); kernel_rfl; refine ⟨_, DrawMeanWait_c _ _ _ bs _ (by repeat (first | assumption | refine Row.e0 ?_ (by assumption) | (refine Row.box (by assumption) (by assumption) (fun k hk h => notBk hk h (Nat.le_refl _)) ?_))) hn hsm hby, ?_⟩; intro r5 w5 e5 h5; have z6 := cutLe e5; obtain ⟨s5, ys, j1, rfl, hj1, hl6, hf6, o6⟩ := h5; obtain ⟨by', dy, rfl, qy, py⟩ := o6.rowx; have hgy : ∀ x ∈ ys, x.fGiver.size ≤ 9223372036854775807 := (fun x hx => (hf6 x hx).2.1); obtain ⟨k1, k2, k3⟩ := mean_law ys j1; have hbN := namesP_len xs)
        | ((with_reducible refine callF (g := 10) ?_ ?_); kernel_rfl; refine ⟨_, MeanWait_c _ _ _ ys _ _ (by repeat (first | assumption | refine Row.e0 ?_ (by assumption) | (refine Row.box (by assumption) (by assumption) (fun k hk h => notBk hk h (Nat.le_refl _)) ?_))) rfl (by omega), ?_⟩; intro w4 e4; have z4 := cutLe e4)
        | ((with_reducible refine callF (g := 11) ?_ ?_); kernel_rfl; refine ⟨_, MeanWaitS_c _ _ _ ys _ _ (by repeat (first | assumption | refine Row.e0 ?_ (by assumption) | (refine Row.box (by assumption) (by assumption) (fun k hk h => notBk hk h (Nat.le_refl _)) ?_))) rfl (by omega) hgy, ?_⟩; intro w4 e4; have z4 := cutLe e4)
        | ((with_reducible refine callF (g := 12) ?_ ?_); kernel_rfl; refine ⟨_, LongestWait_c _ _ _ ys _ _ (by repeat (first | assumption | refine Row.e0 ?_ (by assumption) | (refine Row.box (by assumption) (by assumption) (fun k hk h => notBk hk h (Nat.le_refl _)) ?_))) rfl (by omega), ?_⟩; intro w4 e4; have z4 := cutLe e4)
        | ((with_reducible refine callF (g := 13) ?_ ?_); kernel_rfl; refine ⟨_, LongestWaitS_c _ _ _ ys _ _ (by repeat (first | assumption | refine Row.e0 ?_ (by assumption) | (refine Row.box (by assumption) (by assumption) (fun k hk h => notBk hk h (Nat.le_refl _)) ?_))) rfl (by omega) hgy, ?_⟩; intro w4 e4; have z4 := cutLe e4)
        | ((with_reducible refine BIF.s (fun h => absurd h ?_) (fun _ => ?_)); focus (simp [k1]; done))
        | ((with_reducible refine BIF.s (fun _ => ?_) (fun h => absurd h ?_)); rotate_left; focus (simp [k1]; done))
        | ((with_reducible refine BIF.s (fun (hok2 : (meanP ys j1).2.2 = true) => ?_) (fun hok2 => ?_)))
        | ((with_reducible refine BIF.dec (fun h => absurd k3 (Int.not_le.2 h)) (fun _ => ?_)))
        | ((with_reducible refine BIF.s (fun h => absurd h ?_) (fun _ => ?_)); focus (first | (simp; done) | (simp; omega)))
        | ((with_reducible refine BIF.s (fun _ => ?_) (fun h => absurd h ?_)); rotate_left; focus (first | (simp; done) | (simp; omega)))
        | ((with_reducible refine callS (g := 14) ?_ ?_); kernel_rfl; refine ⟨_, GiverNames_c _ _ _ xs _ (by repeat (first | assumption | refine Row.e0 ?_ (by assumption) | (refine Row.box (by assumption) (by assumption) (fun k hk h => notBk hk h (Nat.le_refl _)) ?_))) rfl (by omega), ?_⟩; intro r5 w5 e5 h5; have z6 := cutLe e5; obtain ⟨s5, rfl, oN⟩ := h5; obtain ⟨bN, dN, rfl, qN, pN⟩ := oN.rowx)
        | ((with_reducible refine callS (g := 15) ?_ ?_); kernel_rfl; refine ⟨_, GiverNamesS_c _ _ _ xs _ (by repeat (first | assumption | refine Row.e0 ?_ (by assumption) | (refine Row.box (by assumption) (by assumption) (fun k hk h => notBk hk h (Nat.le_refl _)) ?_))) rfl (by omega) hgx, ?_⟩; intro r5 w5 e5 h5; have z6 := cutLe e5; obtain ⟨s5, rfl, o5⟩ := h5; obtain ⟨b5, d5, rfl, q5, p5⟩ := o5.rowx)
        | ((with_reducible refine callF (g := 16) ?_ ?_); kernel_rfl; refine ⟨_, rTexts_c _ _ _ _ _ _ _ _ _ (by repeat (first | assumption | refine Row.e0 ?_ (by assumption) | (refine Row.box (by assumption) (by assumption) (fun k hk h => notBk hk h (Nat.le_refl _)) ?_))) (by repeat (first | assumption | refine Row.e0 ?_ (by assumption) | (refine Row.box (by assumption) (by assumption) (fun k hk h => notBk hk h (Nat.le_refl _)) ?_))) rfl rfl (by omega) (by omega), ?_⟩; intro w4 e4; have z4 := cutLe e4)
        | ((with_reducible refine BIF.dec ?_ ?_) <;> intro _)
        | ((with_reducible refine BIF.s ?_ ?_) <;> intro _)
        | (with_reducible refine NEXTK.normal ?_)
        | (with_reducible refine NEXTK.ret ?_)
        | (with_reducible refine NEXTK.exit ?_)
        | (with_reducible refine SEQ.plain ?_)
        | (with_reducible refine hK _ _ ?_)
        | ((with_reducible refine RUNL.agg (fun _ => ?_) ?_); (focus kernel_rfl))
        | (with_reducible refine RUNL.run ?_)
        | ((with_reducible refine AR.ok ?_ ?_); exact ⟨by first | omega | (dsimp only; omega), by first | omega | (dsimp only; omega)⟩)
        | (with_reducible refine AR.wr ?_)
        | ((with_reducible intro w3 e3); try have z3 := cutLe e3)
        | ((with_reducible intro h3); have h4 := Nat.le_of_lt h3; clear h4)))
    all_goals
      have rx4 : Row w4 bx 5 (xs.map encGft) := (by repeat (first | assumption | refine Row.e0 ?_ (by assumption) | (refine Row.box (by assumption) (by assumption) (fun k hk h => notBk hk h (Nat.le_refl _)) ?_)))
      have rn4 : Row w4 bN 1 ((namesP xs).1.map encS) := (by repeat (first | assumption | refine Row.e0 ?_ (by assumption) | (refine Row.box (by assumption) (by assumption) (fun k hk h => notBk hk h (Nat.le_refl _)) ?_)))
      conv => whnf
      refine LOOP.mk Nat (fun k => [(34, .v (.int .i64 k)), (33, .v (.int .i64 (nmLast xs k)))]) (fun k wr => k ≤ (namesP xs).1.length ∧ Row wr bx 5 (xs.map encGft) ∧ Row wr bN 1 ((namesP xs).1.map encS)) (fun k => (namesP xs).1.length - k) 0 rfl ⟨rfl, rfl, trivial⟩ ⟨Nat.zero_le _, rx4, rn4⟩ ?_
      clear rx4 rn4
      rintro k wr hXr ⟨hk, rx, rn⟩
      have rb := hr.ext hXr (mAddr_Non _)
      have ht2 : Tab wr := TabIs.e0 ht hXr
      clear hXr
      dsimp only
      conv => whnf
      repeat (first | ((with_reducible refine NEXTK.normal ?_); conv => whnf) | ((with_reducible refine NEXTK.exit ?_); conv => whnf) | ((with_reducible refine NEXTK.ret ?_); conv => whnf) | ((with_reducible refine SEQ.plain ?_); conv => whnf) | ((with_reducible refine AR.ok ?_ ?_); exact ⟨by omega, by omega⟩; conv => whnf))
      refine BIF.dec (fun hlt => ?_) (fun hlt => ?_)
      · have his := rn.isSome (by simp; omega)
        obtain ⟨s, hs⟩ : ∃ s, (namesP xs).1[k]? = some s := ⟨(namesP xs).1[k]'(by omega), by simp⟩
        obtain ⟨k4, k5, k6⟩ := names_law k s hs
        repeat (any_goals (
          conv => whnf
          first
          | ((with_reducible refine OBL.mk ?_ (fun _ => ?_)); exact ⟨by first | omega | (dsimp only; omega), by first | omega | (dsimp only; omega), his⟩)
          | ((with_reducible refine ELD.atNow (enc := encS) (xs := (namesP xs).1) k rn rfl (by omega) (fun x' hx' => ?_)); obtain rfl : s = x' := by (rw [hs] at hx'; exact Option.some.inj hx'))
          | ((with_reducible refine callF (g := 17) ?_ ?_); kernel_rfl; refine ⟨_, SheetsFrom_c _ _ _ xs _ _ (by repeat (first | assumption | refine Row.e0 ?_ (by assumption) | (refine Row.box (by assumption) (by assumption) (fun k hk h => notBk hk h (Nat.le_refl _)) ?_))) rfl (by omega), ?_⟩; intro w4 e4; have z4 := cutLe e4)
          | ((with_reducible refine BIF.s (fun h => absurd h ?_) (fun _ => ?_)); focus (simp [k4]; done))
          | ((with_reducible refine BIF.s (fun _ => ?_) (fun h => absurd h ?_)); rotate_left; focus (simp [k4]; done))
          | ((with_reducible refine BIF.dec (fun h => absurd h ?_) (fun _ => ?_)); (focus (rw [k5]; omega)))
          | ((with_reducible refine BIF.dec ?_ ?_) <;> intro _)
          | ((with_reducible refine BIF.s ?_ ?_) <;> intro _)
          | (with_reducible refine NEXTK.normal ?_)
          | (with_reducible refine NEXTK.ret ?_)
          | (with_reducible refine NEXTK.exit ?_)
          | (with_reducible refine SEQ.plain ?_)
          | (with_reducible refine hK _ _ ?_)
          | ((with_reducible refine RUNL.agg (fun _ => ?_) ?_); (focus kernel_rfl))
          | (with_reducible refine RUNL.run ?_)
          | ((with_reducible refine AR.ok ?_ ?_); exact ⟨by first | omega | (dsimp only; omega), by first | omega | (dsimp only; omega)⟩)
          | (with_reducible refine AR.wr ?_)
          | ((with_reducible intro w3 e3); try have z3 := cutLe e3)
          | ((with_reducible intro h3); have h4 := Nat.le_of_lt h3; clear h4)))
        refine ⟨k + 1, rfl, ⟨rfl, ?_, trivial⟩, rfl, rfl, ⟨by omega, (by repeat (first | assumption | refine Row.e0 ?_ (by assumption) | (refine Row.box (by assumption) (by assumption) (fun k hk h => notBk hk h (Nat.le_refl _)) ?_))), (by repeat (first | assumption | refine Row.e0 ?_ (by assumption) | (refine Row.box (by assumption) (by assumption) (fun k hk h => notBk hk h (Nat.le_refl _)) ?_)))⟩, by omega⟩
        refine congrArg (fun z => TV.v (Value.int .i64 z)) ?_
        rw [k5]
        rfl
      repeat (any_goals (
        conv => whnf
        first
        | ((with_reducible refine callS (g := 18) ?_ ?_); kernel_rfl; refine ⟨_, DrawGiftText_c _ _ _ bs _ (by repeat (first | assumption | refine Row.e0 ?_ (by assumption) | (refine Row.box (by assumption) (by assumption) (fun k hk h => notBk hk h (Nat.le_refl _)) ?_))) hn hsm hby, ?_⟩; intro r5 w5 e5 h5; have z6 := cutLe e5; obtain ⟨y, rfl, hfy⟩ := h5; have hzy := hfy.2.1)
        | ((with_reducible refine callX (g := 19) ?_ ?_); kernel_rfl; intro hX; refine ⟨_, GiftText_c y _ (TabIs.e0 ht hX), ?_⟩; intro w4 e4; have z4 := cutLe e4; clear hX)
        | ((with_reducible refine callF (g := 20) ?_ ?_); kernel_rfl; refine ⟨_, GiftTextS_c y _ hzy, ?_⟩; intro w4 e4; have z4 := cutLe e4)
        | ((with_reducible refine callS (g := 21) ?_ ?_); kernel_rfl; refine ⟨_, DrawSheetsFrom_c _ _ _ bs _ (by repeat (first | assumption | refine Row.e0 ?_ (by assumption) | (refine Row.box (by assumption) (by assumption) (fun k hk h => notBk hk h (Nat.le_refl _)) ?_))) hn hsm hby, ?_⟩; intro r5 w5 e5 h5; have z6 := cutLe e5; obtain ⟨s5, us, r1, rfl, hr1, hl8, hf8, o8⟩ := h5; obtain ⟨bu, du, rfl, qu, pu⟩ := o8.rowx; have hgu : ∀ x ∈ us, x.fGiver.size ≤ 9223372036854775807 := (fun x hx => (hf8 x hx).2.1))
        | ((with_reducible refine callF (g := 17) ?_ ?_); kernel_rfl; refine ⟨_, SheetsFrom_c _ _ _ us _ _ (by repeat (first | assumption | refine Row.e0 ?_ (by assumption) | (refine Row.box (by assumption) (by assumption) (fun k hk h => notBk hk h (Nat.le_refl _)) ?_))) rfl (by omega), ?_⟩; intro w4 e4; have z4 := cutLe e4)
        | ((with_reducible refine callF (g := 22) ?_ ?_); kernel_rfl; refine ⟨_, SheetsFromS_c _ _ _ us _ _ (by repeat (first | assumption | refine Row.e0 ?_ (by assumption) | (refine Row.box (by assumption) (by assumption) (fun k hk h => notBk hk h (Nat.le_refl _)) ?_))) rfl (by omega) hgu (by omega), ?_⟩; intro w4 e4; have z4 := cutLe e4)
        | ((with_reducible refine BIF.s (fun h => absurd h ?_) (fun _ => ?_)); focus (first | (simp; done) | (simp; omega)))
        | ((with_reducible refine BIF.s (fun _ => ?_) (fun h => absurd h ?_)); rotate_left; focus (first | (simp; done) | (simp; omega)))
        | ((with_reducible refine BIF.s ?_ ?_) <;> intro hok)
        | ((with_reducible refine BIF.dec ?_ ?_) <;> intro _)
        | ((with_reducible refine BIF.s ?_ ?_) <;> intro _)
        | (with_reducible refine NEXTK.normal ?_)
        | (with_reducible refine NEXTK.ret ?_)
        | (with_reducible refine NEXTK.exit ?_)
        | (with_reducible refine SEQ.plain ?_)
        | (with_reducible refine hK _ _ ?_)
        | ((with_reducible refine RUNL.agg (fun _ => ?_) ?_); (focus kernel_rfl))
        | (with_reducible refine RUNL.run ?_)
        | ((with_reducible refine AR.ok ?_ ?_); exact ⟨by first | omega | (dsimp only; omega), by first | omega | (dsimp only; omega)⟩)
        | (with_reducible refine AR.wr ?_)
        | ((with_reducible intro w3 e3); try have z3 := cutLe e3)
        | ((with_reducible intro h3); have h4 := Nat.le_of_lt h3; clear h4)))
      all_goals
        intro hx'
        exact ⟨by simp [resV], hx'⟩

theorem cellsByte {H : Type} {en : TypeId × Value → H} {w : World} {base : Nat} {spare : Nat → Bool} {held : Bool} (n : Nat) (cs : List Value) (x : DataW H × List MemPlace) (hl : cs.length = 1)
    (h : DataW.trod en Tryz.prog w base spare held n 5 cs = some x) : ∃ y : Int, cs = encB y ∧ (0 ≤ y ∧ y ≤ 255) := by
  match cs, hl with
  | [c0], _ =>
    obtain ⟨z0, q0, -, g0⟩ := DataW.trod_int Tryz.underlying5 h
    simp at q0
    subst q0
    simp only [Lit.wf, Bool.and_eq_true, decide_eq_true_eq] at g0
    exact ⟨z0, rfl, g0.1, g0.2⟩

theorem FnThanks_door (os : Os) (args : Array Value) : laidMetH Tryz.prog Rows.fnThanksRow.laid ((World.doorLaid Tryz.prog 400 os).forCall (fun _ _ => 0) ⟨#[], args, []⟩).memory :=
  laidMetH_of_parts3 (fuel := 8) (laidMet_of_run' 8 (by kernel_rfl) (by kernel_rfl)) (by kernel_rfl) (by kernel_rfl)
theorem FnThanks_tab {W : World} (h : laidMetH Tryz.prog Rows.fnThanksRow.laid W) : Tab W := by
  rw [MakeChecks.laidMetH_plain _ _ _ (by kernel_rfl)] at h
  obtain ⟨ps, ⟨g0, t0, cs0, f0, p0, q0, hg0, ht0, hv0, hd0, ⟨g1, t1, cs1, f1, p1, q1, hg1, ht1, hv1, hd1, ⟨g2, t2, cs2, f2, p2, q2, hg2, ht2, hv2, hd2, _, _⟩, _⟩, _⟩, _, _⟩ := h
  obtain rfl := Option.some.inj ((show Tryz.prog.globalNamed "internal/strconv.uint64pow10" = some 0 by kernel_rfl).symm.trans hg2)
  obtain rfl := Option.some.inj ((show (Tryz.prog.globals[0]?).map (·.type) = some 112 by kernel_rfl).symm.trans ht2)
  unfold Tab Lib.TabIs
  rw [hv2]
  obtain ⟨cs⟩ := cs2
  have e := Lib.cells_of_tab (n := 20) (k := .u64) (zs := Lib.pow10Tab) Tryz.underlying112 Tryz.underlying48 (by kernel_rfl) (by kernel_rfl) hd2
  exact congrArg some (congrArg Array.mk e)
set_option maxRecDepth 100000 in
theorem FnThanks_lifted (os : Os) (started : os.Started) (H : Type) (enc : TypeId × Value → H) :
    ReturnsInHanded {} Tryz.checked os 3 .any (fun w args => (Rows.fnThanksSpec.pre enc Tryz.prog Tryz.f3 [] false w args ∧ laidMetH Tryz.prog Rows.fnThanksRow.laid w) ∧ sizedMet enc Tryz.prog Tryz.f3 (OpenSpec.ofChange Rows.fnThanksSpec) false w args)
      (Rows.fnThanksSpec.post enc Tryz.prog Tryz.f3 false true false false) := by
  refine returnsInHanded_of_change_and (C := Tryz.checked) (X := fun w _ => laidMetH Tryz.prog Rows.fnThanksRow.laid w) (fun _ _ _ hh h => h.of_heap hh) own started (by kernel_rfl) Tryz.func3
    (ChangeSpec.witness_shaped (enc := enc) (C := Tryz.checked) (os := os) (X := fun w _ => laidMetH Tryz.prog Rows.fnThanksRow.laid w) false (World.doorLaid Tryz.prog 400 os) #[.slice none 0 0] 8 rfl (World.shaped_of_RefB (by kernel_rfl) (by kernel_rfl)) (by kernel_rfl) (by kernel_rfl) (by kernel_rfl) (FnThanks_door os _)) ?_
  intro W base args ds gs before hval0 hW _ _ hL _
  have hval : ∀ (j : Nat) t v, Tryz.f3.params[j]? = some t → args[j]? = some v → Value.okWide Tryz.prog W .any base t v := hval0
  have hW' := hW
  obtain ⟨p, q, hA0, hV, rfl, hfz, hnd⟩ := hW
  have hA : DataW.TrodAll enc Tryz.prog W 0 (fun _ => true) true Tryz.f3.params.toList args.toList ds p := hA0
  rw [Tryz.params3] at hA hval
  obtain ⟨v0, vs0, d0, ds0, p0, q0, hargs, rfl, rfl, h0, r0⟩ := trodAll_cons hA
  obtain ⟨rfl, rfl, rfl⟩ := trodAll_nil r0
  obtain rfl : args = #[v0] := by cases args; simp_all
  obtain ⟨rfl, rfl⟩ := trodVars_none hV
  obtain ⟨a0, n0, c0, rfl⟩ := okWide_slice Tryz.underlying22 (hval 0 22 v0 rfl rfl)
  have k0 := h0
  have lt0 : ∀ x ∈ p0, x.block < W.heap.size := by obtain ⟨m, hm⟩ := k0; exact DataW.trod_lt m _ _ _ hm
  obtain ⟨xs0, w0, l0, b0, g0⟩ := open_rows Tryz.underlying22 (by kernel_rfl) cellsByte h0
  clear hA0 hval0
  refine (FnThanks_w W (FnThanks_tab hL) a0 n0 c0 xs0 w0 l0 b0 g0).mono fun e W' ⟨he, x⟩ => ?_
  subst he
  have bel := x.toBelow
  exact ⟨_, rfl, _, _, _, [], _, [], hW', trodAll_mk1 (shut_bool Tryz.underlying4 _), (trodAll_cons_mk (Below.trod laidOut (by kernel_rfl) (of_decide_eq_true (by kernel_rfl)) k0 bel lt0) trodAll_mk0), rfl, bel.frame _, fun h => by cases h⟩
theorem FnThanks_row : Rows.fnThanksRow.holds Tryz.pinned (OpenSpec.ofChange Rows.fnThanksSpec) :=
  OpenClaim.holds_of_wide 3 Tryz.f3 rfl rfl rfl rfl rfl rfl rfl ⟨rfl, rfl, rfl, rfl, rfl⟩ rfl rfl rfl rfl rfl (by kernel_rfl) Tryz.func3 (by kernel_rfl)
    (of_decide_eq_true (by kernel_rfl)) (by unfold Func.isWrapper; first | (rw [if_pos (by decide +kernel)]; kernel_rfl) | (rw [if_neg (by decide +kernel)]; exact ⟨rfl, rfl⟩))
    (fun os started H enc _ => FnThanks_lifted os started H enc)
theorem FnThanks_holds : Rows.FnThanksCardSaid :=
  Claim7.holds_tied_plain_at .later [] [.data, .data, .data] true (true, "f513603a485b9d20621bbe052b8ba8c8ec5892f7ad7de7a568244d3209b21729") false
    FnThanks_row (fun _ h => by cases h) (by kernel_rfl) (fun _ h => by cases h) fnThanks_row_tie rfl ⟨rfl, rfl⟩ (by kernel_rfl) rfl
    (fun f fn hf hfn => by
      obtain rfl : f = 3 := Option.some.inj ((show Tryz.prog.funcNamed Rows.fnThanksRow.func = some 3 by kernel_rfl).symm.trans hf) |>.symm
      obtain rfl : fn = Tryz.f3 := (Option.some.inj (Tryz.func3.symm.trans hfn)).symm
      exact ⟨by kernel_rfl, fun j t ht => by
        rw [Tryz.params3] at ht
        have hm : t ∈ [22] := by simpa using Array.mem_of_getElem? ht
        have hall : ([22].all fun u => !Tryz.prog.wantsStandIn u) = true := by kernel_rfl
        exact (show Tryz.prog.wantsStandIn t = false by simpa using List.all_eq_true.1 hall t hm)⟩)
    (by kernel_rfl)
end Go.Proofs.YtohnoccmaeegdaaGreatDoor

/- FnFrames returns true for every argument and leaves its argument as it was. -/
import Derived.Test.YthgeeocmhdpgiaaRows
import Derived.Test.YthgeeocmhdpgiaaFramesP
import Derived.Test.YthgeeocmhdpgiaaDraw3
import Derived.Test.YthgeeocmhdpgiaaRlib
namespace Go.Proofs.Ythgeeocmhdpgiaa
open Go Go.X Go.Proofs Go.ChangeShapes Go.WideShapes Go.ChangeAt Go.RowKit
open Go.ChangeMaps (open_string shut_string)
set_option maxHeartbeats 1000000
set_option maxRecDepth 20000
set_option linter.unusedVariables false
set_option linter.unusedSimpArgs false
theorem FnFrames_w (w : World) (a : Option Addr) (n c : Nat) (bs : List Int) (hr : Row w a 1 (bs.map encB)) (hn : bs.length = n) (hm : n ≤ 9223372036854775807) (hby : ∀ y ∈ bs, 0 ≤ y ∧ y ≤ 255) :
    Calls Try.prog 3 #[.slice a n c] w fun e w' => e = .returned (.bool true) ∧ E0 w w' := by
  refine enterK Non 251 Try.func3 rfl rfl rfl fun K hK => ?_
  by_cases hbig : (65536 : Int) < n
  · repeat (any_goals (
      conv => whnf
      first
      | ((with_reducible refine callF (g := 4) ?_ ?_); kernel_rfl; refine ⟨_, rBig_c _ _ _ _, ?_⟩; intro w4 e4; have z4 := cutLe e4)
      | ((with_reducible refine BIF.s (fun h => absurd h ?_) (fun _ => ?_)); focus (first | (simp; done) | (simp; omega)))
      | ((with_reducible refine BIF.s (fun _ => ?_) (fun h => absurd h ?_)); rotate_left; focus (first | (simp; done) | (simp; omega)))
      | ((with_reducible refine BIF.dec ?_ ?_) <;> intro _)
      | ((with_reducible refine BIF.s ?_ ?_) <;> intro _)
      | (with_reducible refine NEXTK.normal ?_)
      | (with_reducible refine NEXTK.ret ?_)
      | (with_reducible refine NEXTK.exit ?_)
      | (with_reducible refine SEQ.plain ?_)
      | (with_reducible refine hK _ _ ?_)
      | ((with_reducible refine RUNL.agg (fun _ => ?_) ?_); (focus kernel_rfl))
      | (with_reducible refine RUNL.run ?_)
      | ((with_reducible refine AR.ok ?_ ?_); exact ⟨by first | omega | (dsimp only; omega), by first | omega | (dsimp only; omega)⟩)
      | (with_reducible refine AR.wr ?_)
      | ((with_reducible intro w3 e3); try have z3 := cutLe e3)
      | ((with_reducible intro h3); have h4 := Nat.le_of_lt h3; clear h4)))
    intro hx
    exact ⟨rfl, hx⟩
  · have hsm : n ≤ 65536 := by omega
    repeat (any_goals (
      conv => whnf
      first
      | ((with_reducible refine callF (g := 4) ?_ ?_); kernel_rfl; refine ⟨_, rBig_c _ _ _ _, ?_⟩; intro w4 e4; have z4 := cutLe e4)
      | ((with_reducible refine BIF.s (fun h => absurd h ?_) (fun _ => ?_)); focus (first | (simp; done) | (simp; omega)))
      | ((with_reducible refine BIF.s (fun _ => ?_) (fun h => absurd h ?_)); rotate_left; focus (first | (simp; done) | (simp; omega)))
      | ((with_reducible refine callS (g := 5) ?_ ?_); kernel_rfl; refine ⟨_, DrawHangFrame_c _ _ _ bs _ (by repeat (first | assumption | refine Row.e0 ?_ (by assumption))) hn hsm hby, ?_⟩; intro r5 w5 e5 h5; have z6 := cutLe e5; obtain ⟨s5, xs, i1, i2, i3, i4, rfl, hi1, hi2, hi3, hi4, hl5, hf5, o5⟩ := h5; obtain ⟨b5, d5, rfl, q5, p5⟩ := o5.rowx ; have hbT := hangP_len xs i1 i2 i3 i4 ; have hft := hang_fits xs i1 i2 i3 i4)
      | ((with_reducible refine callS (g := 6) ?_ ?_); kernel_rfl; refine ⟨_, HangFrame_c _ _ _ xs _ _ _ _ _ (by repeat (first | assumption | refine Row.e0 ?_ (by assumption))) rfl (by omega), ?_⟩; intro r5 w5 e5 h5; have z6 := cutLe e5; obtain ⟨s5, rfl, o5⟩ := h5; obtain ⟨b5, d5, rfl, q5, p5⟩ := o5.rowx)
      | ((with_reducible refine callS (g := 7) ?_ ?_); kernel_rfl; refine ⟨_, HangFrameS_c _ _ _ xs _ _ _ _ _ (by repeat (first | assumption | refine Row.e0 ?_ (by assumption))) rfl (by omega), ?_⟩; intro r5 w5 e5 h5; have z6 := cutLe e5; obtain ⟨s5, rfl, o5⟩ := h5; obtain ⟨b5, d5, rfl, q5, p5⟩ := o5.rowx)
      | ((with_reducible refine callF (g := 8) ?_ ?_); kernel_rfl; refine ⟨_, rFrames_c _ _ _ _ _ _ _ _ _ (by repeat (first | assumption | refine Row.e0 ?_ (by assumption))) (by repeat (first | assumption | refine Row.e0 ?_ (by assumption))) rfl rfl (by omega) (by omega), ?_⟩; intro w4 e4; have z4 := cutLe e4)
      | ((with_reducible refine callF (g := 9) ?_ ?_); kernel_rfl; refine ⟨_, RoomFor_c _ _ _ xs _ _ _ _ (by repeat (first | assumption | refine Row.e0 ?_ (by assumption))) rfl (by omega), ?_⟩; intro w4 e4; have z4 := cutLe e4)
      | ((with_reducible refine callF (g := 10) ?_ ?_); kernel_rfl; refine ⟨_, RoomForS_c _ _ _ xs _ _ _ _ (by repeat (first | assumption | refine Row.e0 ?_ (by assumption))) rfl (by omega), ?_⟩; intro w4 e4; have z4 := cutLe e4)
      | ((with_reducible refine BIF.s (fun h => absurd h ?_) (fun _ => ?_)); (focus (first | (rw [hft, fits_tt (by assumption) (by assumption) (by assumption) (by assumption) (by assumption) (by assumption)]; simp; done) | (rw [hft, fits_y (by assumption) (by assumption) (by assumption) (by assumption) (by assumption) (by assumption) hyl]; simp; done) | (rw [hft, fits_ff (.inl (by assumption))]; simp; done) | (rw [hft, fits_ff (.inr (.inl (by assumption)))]; simp; done) | (rw [hft, fits_ff (.inr (.inr (.inl (by assumption))))]; simp; done) | (rw [hft, fits_ff (.inr (.inr (.inr (.inl (by assumption)))))]; simp; done) | (rw [hft, fits_ff (.inr (.inr (.inr (.inr (by assumption)))))]; simp; done))))
      | ((with_reducible refine OBL.mk ?_ (fun _ => ?_)); (have his := Row.isSome (by assumption : Row _ _ 5 (xs.map encFrm)) (by simp; omega)); exact ⟨by omega, by omega, his⟩)
      | ((with_reducible refine ELD.atNow (enc := encFrm) (xs := xs) (xs.length - 1) (by repeat (first | assumption | refine Row.e0 ?_ (by assumption))) ?_ ?_ (fun y hy => ?_)); (focus omega); (focus omega); have hyl : xs.getD (xs.length - 1) default = y := by (simp [List.getD, hy]))
      | ((with_reducible refine BIF.beq ?_ ?_) <;> intro _)
      | ((with_reducible refine BIF.dec ?_ ?_) <;> intro _)
      | ((with_reducible refine BIF.s ?_ ?_) <;> intro hok)
      | ((with_reducible refine BIF.dec ?_ ?_) <;> intro _)
      | ((with_reducible refine BIF.s ?_ ?_) <;> intro _)
      | (with_reducible refine NEXTK.normal ?_)
      | (with_reducible refine NEXTK.ret ?_)
      | (with_reducible refine NEXTK.exit ?_)
      | (with_reducible refine SEQ.plain ?_)
      | (with_reducible refine hK _ _ ?_)
      | ((with_reducible refine RUNL.agg (fun _ => ?_) ?_); (focus kernel_rfl))
      | (with_reducible refine RUNL.run ?_)
      | ((with_reducible refine AR.ok ?_ ?_); exact ⟨by first | omega | (dsimp only; omega), by first | omega | (dsimp only; omega)⟩)
      | (with_reducible refine AR.wr ?_)
      | ((with_reducible intro w3 e3); try have z3 := cutLe e3)
      | ((with_reducible intro h3); have h4 := Nat.le_of_lt h3; clear h4)))
    all_goals first
    | (have hok1 : (hangP xs i1 i2 i3 i4).2.2 = true := by assumption
       obtain ⟨g1, g2, g3, g4, g5, g6, g7, g8⟩ := hang_law hok1
       have g9 := hangingP_len (hangP xs i1 i2 i3 i4).1 i3)
    | skip
    all_goals
      repeat (any_goals (
        conv => whnf
        first
        | ((with_reducible refine BIF.s (fun h => absurd h ?_) (fun _ => ?_)); focus (simp [g1]; done))
        | ((with_reducible refine BIF.s (fun _ => ?_) (fun h => absurd h ?_)); rotate_left; focus (simp [g1]; done))
        | ((with_reducible refine BIF.s (fun h => absurd h ?_) (fun _ => ?_)); focus (simp [g2]; done))
        | ((with_reducible refine BIF.s (fun _ => ?_) (fun h => absurd h ?_)); rotate_left; focus (simp [g2]; done))
        | ((with_reducible refine BIF.s (fun h => absurd h ?_) (fun _ => ?_)); focus (simp [g3]; done))
        | ((with_reducible refine BIF.s (fun _ => ?_) (fun h => absurd h ?_)); rotate_left; focus (simp [g3]; done))
        | ((with_reducible refine BIF.s (fun h => absurd h ?_) (fun _ => ?_)); focus (simp [g7]; done))
        | ((with_reducible refine BIF.s (fun _ => ?_) (fun h => absurd h ?_)); rotate_left; focus (simp [g7]; done))
        | ((with_reducible refine BIF.s (fun h => absurd h ?_) (fun _ => ?_)); focus (first | (simp; done) | (simp; omega)))
        | ((with_reducible refine BIF.s (fun _ => ?_) (fun h => absurd h ?_)); rotate_left; focus (first | (simp; done) | (simp; omega)))
        | ((with_reducible refine callF (g := 11) ?_ ?_); kernel_rfl; refine ⟨_, WidthOn_c _ _ _ _ _ _ _ (by repeat (first | assumption | refine Row.e0 ?_ (by assumption))) rfl (by omega), ?_⟩; intro w4 e4; have z4 := cutLe e4)
        | ((with_reducible refine callF (g := 15) ?_ ?_); kernel_rfl; refine ⟨_, WidthOnS_c _ _ _ _ _ _ _ (by repeat (first | assumption | refine Row.e0 ?_ (by assumption))) rfl (by omega), ?_⟩; intro w4 e4; have z4 := cutLe e4)
        | ((with_reducible refine callS (g := 12) ?_ ?_); kernel_rfl; refine ⟨_, HangingOn_c _ _ _ _ _ _ (by repeat (first | assumption | refine Row.e0 ?_ (by assumption))) rfl (by omega), ?_⟩; intro r5 w5 e5 h5; have z6 := cutLe e5; obtain ⟨s5, rfl, o5⟩ := h5; obtain ⟨b5, d5, rfl, q5, p5⟩ := o5.rowx)
        | ((with_reducible refine callS (g := 17) ?_ ?_); kernel_rfl; refine ⟨_, HangingOnS_c _ _ _ _ _ _ (by repeat (first | assumption | refine Row.e0 ?_ (by assumption))) rfl (by omega), ?_⟩; intro r5 w5 e5 h5; have z6 := cutLe e5; obtain ⟨s5, rfl, o5⟩ := h5; obtain ⟨b5, d5, rfl, q5, p5⟩ := o5.rowx)
        | ((with_reducible refine callF (g := 13) ?_ ?_); kernel_rfl; refine ⟨_, rHas_c _ _ _ _ _ _ (by repeat (first | assumption | refine Row.e0 ?_ (by assumption))) rfl (by omega), ?_⟩; intro w4 e4; have z4 := cutLe e4)
        | ((with_reducible refine callS (g := 14) ?_ ?_); kernel_rfl; refine ⟨_, DrawWidthOn_c _ _ _ bs _ (by repeat (first | assumption | refine Row.e0 ?_ (by assumption))) hn hsm hby, ?_⟩; intro r5 w5 e5 h5; have z6 := cutLe e5; obtain ⟨s5, ys, j1, j2, rfl, hj1, hj2, hl5, hf5, o5⟩ := h5; obtain ⟨b5, d5, rfl, q5, p5⟩ := o5.rowx ; have hw1 := @width_1000 ys j1 j2)
        | ((with_reducible refine callS (g := 16) ?_ ?_); kernel_rfl; refine ⟨_, DrawHangingOn_c _ _ _ bs _ (by repeat (first | assumption | refine Row.e0 ?_ (by assumption))) hn hsm hby, ?_⟩; intro r5 w5 e5 h5; have z6 := cutLe e5; obtain ⟨s5, us, j3, rfl, hj3, hl5, hf5, o5⟩ := h5; obtain ⟨b5, d5, rfl, q5, p5⟩ := o5.rowx ; have hbH := hangingP_len us j3)
        | ((with_reducible refine callF (g := 18) ?_ ?_); kernel_rfl; refine ⟨_, rInts_c _ _ _ _ _ _ _ _ _ (by repeat (first | assumption | refine Row.e0 ?_ (by assumption))) (by repeat (first | assumption | refine Row.e0 ?_ (by assumption))) rfl rfl (by omega) (by omega), ?_⟩; intro w4 e4; have z4 := cutLe e4)
        | ((with_reducible refine callF (g := 19) ?_ ?_); kernel_rfl; refine ⟨_, AreFrames_c _ _ _ _ _ (by repeat (first | assumption | refine Row.e0 ?_ (by assumption))) rfl (by omega), ?_⟩; intro w4 e4; have z4 := cutLe e4)
        | ((with_reducible refine callF (g := 20) ?_ ?_); kernel_rfl; refine ⟨_, AreFramesS_c _ _ _ _ _ (by repeat (first | assumption | refine Row.e0 ?_ (by assumption))) rfl (by omega), ?_⟩; intro w4 e4; have z4 := cutLe e4)
        | ((with_reducible refine BIF.bne ?_ ?_) <;> intro _)
        | ((with_reducible refine BIF.dec ?_ ?_) <;> intro _)
        | ((exfalso; omega))
        | ((with_reducible refine BIF.s ?_ ?_) <;> intro hok)
        | ((with_reducible refine BIF.dec ?_ ?_) <;> intro _)
        | ((with_reducible refine BIF.s ?_ ?_) <;> intro _)
        | (with_reducible refine NEXTK.normal ?_)
        | (with_reducible refine NEXTK.ret ?_)
        | (with_reducible refine NEXTK.exit ?_)
        | (with_reducible refine SEQ.plain ?_)
        | (with_reducible refine hK _ _ ?_)
        | ((with_reducible refine RUNL.agg (fun _ => ?_) ?_); (focus kernel_rfl))
        | (with_reducible refine RUNL.run ?_)
        | ((with_reducible refine AR.ok ?_ ?_); exact ⟨by first | omega | (dsimp only; omega), by first | omega | (dsimp only; omega)⟩)
        | (with_reducible refine AR.wr ?_)
        | ((with_reducible intro w3 e3); try have z3 := cutLe e3)
        | ((with_reducible intro h3); have h4 := Nat.le_of_lt h3; clear h4)))
    all_goals
      intro hx
      exact ⟨by simp [resV], hx⟩

theorem cellsByte {H : Type} {en : TypeId × Value → H} {w : World} {base : Nat} {spare : Nat → Bool} {held : Bool} (n : Nat) (cs : List Value) (x : DataW H × List MemPlace) (hl : cs.length = 1)
    (h : DataW.trod en Try.prog w base spare held n 5 cs = some x) : ∃ y : Int, cs = encB y ∧ (0 ≤ y ∧ y ≤ 255) := by
  match cs, hl with
  | [c0], _ =>
    obtain ⟨z0, q0, -, g0⟩ := DataW.trod_int Try.underlying5 h
    simp at q0
    subst q0
    simp only [Lit.wf, Bool.and_eq_true, decide_eq_true_eq] at g0
    exact ⟨z0, rfl, g0.1, g0.2⟩

set_option maxRecDepth 100000 in
theorem FnFrames_lifted (os : Os) (started : os.Started) (H : Type) (enc : TypeId × Value → H) :
    ReturnsInHanded {} Try.checked os 3 .any (Rows.fnFramesSpec.pre6 enc Try.prog Try.f3 Rows.fnFramesRow.domain false) (Rows.fnFramesSpec.post enc Try.prog Try.f3 false true false false) := by
  refine returnsInHanded_of_change (C := Try.checked) own started (by kernel_rfl) Try.func3
    (ChangeSpec.witness6 (enc := enc) (C := Try.checked) false ⟨#[], #[.slice none 0 0], []⟩ 8 (by kernel_rfl) (by kernel_rfl) (by kernel_rfl) (by kernel_rfl)) ?_
  intro W base args ds gs before hval0 hW hcnd _
  have hval : ∀ (j : Nat) t v, Try.f3.params[j]? = some t → args[j]? = some v → Value.okWide Try.prog W .any base t v := hval0
  have hW' := hW
  obtain ⟨p, q, hA0, hV, rfl, hfz, hnd⟩ := hW
  have hA : DataW.TrodAll enc Try.prog W 0 (fun _ => true) true Try.f3.params.toList args.toList ds p := hA0
  rw [Try.params3] at hA hval
  obtain ⟨v0, vs0, d0, ds0, p0, q0, hargs, rfl, rfl, h0, r0⟩ := trodAll_cons hA
  obtain ⟨rfl, rfl, rfl⟩ := trodAll_nil r0
  obtain rfl : args = #[v0] := by cases args; simp_all
  obtain ⟨rfl, rfl⟩ := trodVars_none hV
  obtain ⟨a0, n0, c0, rfl⟩ := okWide_slice Try.underlying22 (hval 0 22 v0 rfl rfl)
  have k0 := h0
  have lt0 : ∀ x ∈ p0, x.block < W.heap.size := by obtain ⟨m, hm⟩ := k0; exact DataW.trod_lt m _ _ _ hm
  obtain ⟨xs0, w0, l0, b0, g0⟩ := open_rows Try.underlying22 (by kernel_rfl) cellsByte h0
  clear hA0 hval0
  refine (FnFrames_w W a0 n0 c0 xs0 w0 l0 b0 g0).mono fun e W' ⟨he, x⟩ => ?_
  subst he
  have bel := x.toBelow
  exact ⟨_, rfl, _, _, _, [], _, [], hW', trodAll_mk1 (shut_bool Try.underlying4 _), (trodAll_cons_mk (Below.trod laidOut (by kernel_rfl) (of_decide_eq_true (by kernel_rfl)) k0 bel lt0) trodAll_mk0), rfl, bel.frame _, fun h => by cases h⟩
theorem FnFrames_holds : Rows.fnFramesRow.holds Try.pinned (OpenSpec.ofChange Rows.fnFramesSpec) :=
  OpenClaim.holds_of_wide 3 Try.f3 rfl rfl rfl rfl rfl rfl rfl ⟨rfl, rfl, rfl, rfl, rfl⟩ rfl rfl rfl rfl rfl (by kernel_rfl) Try.func3 (by kernel_rfl)
    (of_decide_eq_true (by kernel_rfl)) (by unfold Func.isWrapper; first | (rw [if_pos (by decide +kernel)]; kernel_rfl) | (rw [if_neg (by decide +kernel)]; exact ⟨rfl, rfl⟩))
    (fun os started H enc _ => FnFrames_lifted os started H enc)
end Go.Proofs.Ythgeeocmhdpgiaa

/- FnExactNewScan returns true for every argument and leaves its arguments as they were. -/
import Derived.Test.YtckflfckaobfnaaRows
import Derived.Test.YtckflfckaobfnaaScan
namespace Go.Proofs.Ytckflfckaobfnaa
open Go Go.X Go.Proofs Go.ChangeShapes Go.WideShapes Go.ChangeAt Go.RowKit
open Go.ChangeMaps (open_string shut_string)
set_option maxHeartbeats 1000000
set_option maxRecDepth 20000
set_option linter.unusedVariables false
set_option linter.unusedSimpArgs false
theorem FnExactNewScan_w (w : World) (i0 : Int) (h0 : -9223372036854775808 ≤ i0 ∧ i0 ≤ 9223372036854775807) :
    Calls Try.prog 3 #[.int .i64 i0] w fun e w' => e = .returned (.bool true) ∧ E0 w w' := by
  refine enterK Non 63 Try.func3 rfl rfl rfl fun K hK => ?_
  have hl := newN_le i0
  have hjl := newJ_len i0
  repeat (any_goals (
    conv => whnf
    first
    | ((with_reducible refine BIF.dec ?_ ?_) <;> intro _)
    | ((with_reducible refine BIF.s ?_ ?_) <;> intro _)
    | (with_reducible refine NEXTK.normal ?_)
    | (with_reducible refine NEXTK.ret ?_)
    | (with_reducible refine NEXTK.exit ?_)
    | (with_reducible refine SEQ.plain ?_)
    | (with_reducible refine hK _ _ ?_)
    | ((with_reducible refine AR.ok ?_ ?_); exact ⟨by first | omega | (dsimp only; omega), by first | omega | (dsimp only; omega)⟩)
    | (with_reducible refine AR.wr ?_)
    | ((with_reducible intro w3 e3); try have z3 := cutLe e3)
    | ((with_reducible intro h3); have h4 := Nat.le_of_lt h3; clear h4)))
  conv => whnf
  refine callY (g := 8) (by kernel_rfl) ⟨_, fun _ => NewScanS_c i0 _, fun r w1 e1 hW => ?_⟩
  have z1 := cutLe e1
  obtain ⟨aW, nW, cW, rfl, oW⟩ := hW
  have lW := oW.row.2
  simp only [List.length_map] at lW
  have oLW := fun k h => oW.block (k := k) h
  repeat (any_goals (
    conv => whnf
    first
    | ((with_reducible intro w3 e3); have z3 := cutLe e3; replace oW := oW.ext e3 (by first | exact fun _ _ h => h | (intro k hk h; have hh := oLW k hk; simp only [bk] at h; omega)))
    | ((with_reducible refine BIF.dec ?_ ?_) <;> intro _)
    | ((with_reducible refine BIF.s ?_ ?_) <;> intro _)
    | (with_reducible refine NEXTK.normal ?_)
    | (with_reducible refine NEXTK.ret ?_)
    | (with_reducible refine NEXTK.exit ?_)
    | (with_reducible refine SEQ.plain ?_)
    | (with_reducible refine hK _ _ ?_)
    | ((with_reducible refine AR.ok ?_ ?_); exact ⟨by first | omega | (dsimp only; omega), by first | omega | (dsimp only; omega)⟩)
    | (with_reducible refine AR.wr ?_)
    | ((with_reducible intro w3 e3); try have z3 := cutLe e3)
    | ((with_reducible intro h3); have h4 := Nat.le_of_lt h3; clear h4)))
  conv => whnf
  refine callY (g := 9) (by kernel_rfl) ⟨_, fun _ => NewScan_c i0 _, fun r w2 e2 hG => ?_⟩
  have z2 := cutLe e2
  obtain ⟨aG, nG, cG, rfl, oG⟩ := hG
  have lG := oG.row.2
  simp only [List.length_map] at lG
  have oLG := fun k h => oG.block (k := k) h
  have apWG : ∀ k, (Value.slice aW nW cW).ownBlock = some k → ¬ (Value.slice aG nG cG).ownBlock = some k := fun k h1 h2 => by
    have := (oLW k h1).2
    have := (oLG k h2).1
    omega
  replace oW := oW.e0 e2
  repeat (any_goals (
    conv => whnf
    first
    | ((with_reducible intro w3 e3); have z3 := cutLe e3; replace oW := oW.ext e3 (by first | exact fun _ _ h => h | (intro k hk h; have hh := oLW k hk; simp only [bk] at h; omega)); replace oG := oG.ext e3 (by first | exact fun _ _ h => h | (intro k hk h; have hh := oLG k hk; simp only [bk] at h; omega)))
    | ((with_reducible refine BIF.dec ?_ ?_) <;> intro _)
    | ((with_reducible refine BIF.s ?_ ?_) <;> intro _)
    | (with_reducible refine NEXTK.normal ?_)
    | (with_reducible refine NEXTK.ret ?_)
    | (with_reducible refine NEXTK.exit ?_)
    | (with_reducible refine SEQ.plain ?_)
    | (with_reducible refine hK _ _ ?_)
    | ((with_reducible refine AR.ok ?_ ?_); exact ⟨by first | omega | (dsimp only; omega), by first | omega | (dsimp only; omega)⟩)
    | (with_reducible refine AR.wr ?_)
    | ((with_reducible intro w3 e3); try have z3 := cutLe e3)
    | ((with_reducible intro h3); have h4 := Nat.le_of_lt h3; clear h4)))
  conv => whnf
  refine callF (g := 10) (by kernel_rfl) ⟨_, eqScanJob_c (newJ i0) (newJ i0) _ _ _ _ _ _ _ oG.row.1 oW.row.1 lG lW (by omega) (by omega), fun w5 e5 => ?_⟩
  have z5 := cutLe e5
  replace oW := oW.e0 e5
  replace oG := oG.e0 e5
  repeat (any_goals (
    conv => whnf
    first
    | ((with_reducible intro w3 e3); have z3 := cutLe e3; replace oW := oW.ext e3 (by first | exact fun _ _ h => h | (intro k hk h; have hh := oLW k hk; simp only [bk] at h; omega)); replace oG := oG.ext e3 (by first | exact fun _ _ h => h | (intro k hk h; have hh := oLG k hk; simp only [bk] at h; omega)))
    | ((with_reducible refine BIF.s (fun h => absurd h ?_) (fun _ => ?_)); focus (first | (simp; done) | (simp; omega)))
    | ((with_reducible refine BIF.s (fun _ => ?_) (fun h => absurd h ?_)); rotate_left; focus (first | (simp; done) | (simp; omega)))
    | ((with_reducible refine BIF.dec ?_ ?_) <;> intro _)
    | ((with_reducible refine BIF.s ?_ ?_) <;> intro _)
    | (with_reducible refine NEXTK.normal ?_)
    | (with_reducible refine NEXTK.ret ?_)
    | (with_reducible refine NEXTK.exit ?_)
    | (with_reducible refine SEQ.plain ?_)
    | (with_reducible refine hK _ _ ?_)
    | ((with_reducible refine AR.ok ?_ ?_); exact ⟨by first | omega | (dsimp only; omega), by first | omega | (dsimp only; omega)⟩)
    | (with_reducible refine AR.wr ?_)
    | ((with_reducible intro w3 e3); try have z3 := cutLe e3)
    | ((with_reducible intro h3); have h4 := Nat.le_of_lt h3; clear h4)))
  conv => whnf
  refine callM (g := 11) (by kernel_rfl) ⟨_, _, (by repeat (first | exact trivial | (refine ⟨?_, ?_⟩; (focus (intro h; have hh := oLG _ h; dsimp only at hh; omega))))), fun b hb h => oG.fresh (by show w.heap.size ≤ _; omega) b hb h, markScanJob_c _ (newJ i0) _ _ _ _ _ oG lG (by omega) (by omega), fun r w6 e6 h => ?_⟩
  obtain ⟨rfl, mG⟩ := h
  have z6 := cutLe e6
  replace oW := oW.past e6 apWG
  clear oG
  repeat (any_goals (
    conv => whnf
    first
    | ((with_reducible intro w3 e3); have z3 := cutLe e3; replace oW := oW.ext e3 (by first | exact fun _ _ h => h | (intro k hk h; have hh := oLW k hk; simp only [bk] at h; omega)); replace mG := mG.ext e3 (by first | exact fun _ _ h => h | (intro k hk h; have hh := oLG k hk; simp only [bk] at h; omega)))
    | ((with_reducible refine BIF.s (fun h => absurd h ?_) (fun _ => ?_)); focus (first | (simp; done) | (simp; omega)))
    | ((with_reducible refine BIF.s (fun _ => ?_) (fun h => absurd h ?_)); rotate_left; focus (first | (simp; done) | (simp; omega)))
    | ((with_reducible refine BIF.dec ?_ ?_) <;> intro _)
    | ((with_reducible refine BIF.s ?_ ?_) <;> intro _)
    | (with_reducible refine NEXTK.normal ?_)
    | (with_reducible refine NEXTK.ret ?_)
    | (with_reducible refine NEXTK.exit ?_)
    | (with_reducible refine SEQ.plain ?_)
    | (with_reducible refine hK _ _ ?_)
    | ((with_reducible refine AR.ok ?_ ?_); exact ⟨by first | omega | (dsimp only; omega), by first | omega | (dsimp only; omega)⟩)
    | (with_reducible refine AR.wr ?_)
    | ((with_reducible intro w3 e3); try have z3 := cutLe e3)
    | ((with_reducible intro h3); have h4 := Nat.le_of_lt h3; clear h4)))
  conv => whnf
  refine callF (g := 12) (by kernel_rfl) ⟨_, heldScanJob_c (newJ i0) _ _ _ _ _ mG.row.1 (by omega) (by omega), fun w7 e7 => ?_⟩
  have z7 := cutLe e7
  replace oW := oW.e0 e7
  replace mG := mG.e0 e7
  repeat (any_goals (
    conv => whnf
    first
    | ((with_reducible intro w3 e3); have z3 := cutLe e3; replace oW := oW.ext e3 (by first | exact fun _ _ h => h | (intro k hk h; have hh := oLW k hk; simp only [bk] at h; omega)); replace mG := mG.ext e3 (by first | exact fun _ _ h => h | (intro k hk h; have hh := oLG k hk; simp only [bk] at h; omega)))
    | ((with_reducible refine BIF.s (fun h => absurd h ?_) (fun _ => ?_)); focus (first | (simp; done) | (simp; omega)))
    | ((with_reducible refine BIF.s (fun _ => ?_) (fun h => absurd h ?_)); rotate_left; focus (first | (simp; done) | (simp; omega)))
    | ((with_reducible refine BIF.dec ?_ ?_) <;> intro _)
    | ((with_reducible refine BIF.s ?_ ?_) <;> intro _)
    | (with_reducible refine NEXTK.normal ?_)
    | (with_reducible refine NEXTK.ret ?_)
    | (with_reducible refine NEXTK.exit ?_)
    | (with_reducible refine SEQ.plain ?_)
    | (with_reducible refine hK _ _ ?_)
    | ((with_reducible refine AR.ok ?_ ?_); exact ⟨by first | omega | (dsimp only; omega), by first | omega | (dsimp only; omega)⟩)
    | (with_reducible refine AR.wr ?_)
    | ((with_reducible intro w3 e3); try have z3 := cutLe e3)
    | ((with_reducible intro h3); have h4 := Nat.le_of_lt h3; clear h4)))
  conv => whnf
  refine callY (g := 9) (by kernel_rfl) ⟨_, fun _ => NewScan_c i0 _, fun r w8 e8 hH => ?_⟩
  have z8 := cutLe e8
  obtain ⟨aH, nH, cH, rfl, oH⟩ := hH
  have lH := oH.row.2
  simp only [List.length_map] at lH
  have oLH := fun k h => oH.block (k := k) h
  replace oW := oW.e0 e8
  replace mG := mG.e0 e8
  repeat (any_goals (
    conv => whnf
    first
    | ((with_reducible intro w3 e3); have z3 := cutLe e3; replace oW := oW.ext e3 (by first | exact fun _ _ h => h | (intro k hk h; have hh := oLW k hk; simp only [bk] at h; omega)); replace mG := mG.ext e3 (by first | exact fun _ _ h => h | (intro k hk h; have hh := oLG k hk; simp only [bk] at h; omega)); replace oH := oH.ext e3 (by first | exact fun _ _ h => h | (intro k hk h; have hh := oLH k hk; simp only [bk] at h; omega)))
    | ((with_reducible refine BIF.dec ?_ ?_) <;> intro _)
    | ((with_reducible refine BIF.s ?_ ?_) <;> intro _)
    | (with_reducible refine NEXTK.normal ?_)
    | (with_reducible refine NEXTK.ret ?_)
    | (with_reducible refine NEXTK.exit ?_)
    | (with_reducible refine SEQ.plain ?_)
    | (with_reducible refine hK _ _ ?_)
    | ((with_reducible refine AR.ok ?_ ?_); exact ⟨by first | omega | (dsimp only; omega), by first | omega | (dsimp only; omega)⟩)
    | (with_reducible refine AR.wr ?_)
    | ((with_reducible intro w3 e3); try have z3 := cutLe e3)
    | ((with_reducible intro h3); have h4 := Nat.le_of_lt h3; clear h4)))
  conv => whnf
  refine callF (g := 10) (by kernel_rfl) ⟨_, eqScanJob_c (newJ i0) (newJ i0) _ _ _ _ _ _ _ oH.row.1 oW.row.1 lH lW (by omega) (by omega), fun w9 e9 => ?_⟩
  have z9 := cutLe e9
  replace mG := mG.e0 e9
  repeat (any_goals (
    conv => whnf
    first
    | ((with_reducible intro w3 e3); have z3 := cutLe e3; replace mG := mG.ext e3 (by first | exact fun _ _ h => h | (intro k hk h; have hh := oLG k hk; simp only [bk] at h; omega)))
    | ((with_reducible refine BIF.s (fun h => absurd h ?_) (fun _ => ?_)); focus (first | (simp; done) | (simp; omega)))
    | ((with_reducible refine BIF.s (fun _ => ?_) (fun h => absurd h ?_)); rotate_left; focus (first | (simp; done) | (simp; omega)))
    | ((with_reducible refine BIF.dec ?_ ?_) <;> intro _)
    | ((with_reducible refine BIF.s ?_ ?_) <;> intro _)
    | (with_reducible refine NEXTK.normal ?_)
    | (with_reducible refine NEXTK.ret ?_)
    | (with_reducible refine NEXTK.exit ?_)
    | (with_reducible refine SEQ.plain ?_)
    | (with_reducible refine hK _ _ ?_)
    | ((with_reducible refine AR.ok ?_ ?_); exact ⟨by first | omega | (dsimp only; omega), by first | omega | (dsimp only; omega)⟩)
    | (with_reducible refine AR.wr ?_)
    | ((with_reducible intro w3 e3); try have z3 := cutLe e3)
    | ((with_reducible intro h3); have h4 := Nat.le_of_lt h3; clear h4)))
  conv => whnf
  refine callF (g := 12) (by kernel_rfl) ⟨_, heldScanJob_c (newJ i0) _ _ _ _ _ mG.row.1 (by omega) (by omega), fun w10 e10 => ?_⟩
  repeat (any_goals (
    conv => whnf
    first
    | ((with_reducible refine BIF.s (fun h => absurd h ?_) (fun _ => ?_)); focus (first | (simp; done) | (simp; omega)))
    | ((with_reducible refine BIF.s (fun _ => ?_) (fun h => absurd h ?_)); rotate_left; focus (first | (simp; done) | (simp; omega)))
    | ((with_reducible refine BIF.dec ?_ ?_) <;> intro _)
    | ((with_reducible refine BIF.s ?_ ?_) <;> intro _)
    | (with_reducible refine NEXTK.normal ?_)
    | (with_reducible refine NEXTK.ret ?_)
    | (with_reducible refine NEXTK.exit ?_)
    | (with_reducible refine SEQ.plain ?_)
    | (with_reducible refine hK _ _ ?_)
    | ((with_reducible refine AR.ok ?_ ?_); exact ⟨by first | omega | (dsimp only; omega), by first | omega | (dsimp only; omega)⟩)
    | (with_reducible refine AR.wr ?_)
    | ((with_reducible intro w3 e3); try have z3 := cutLe e3)
    | ((with_reducible intro h3); have h4 := Nat.le_of_lt h3; clear h4)))
  intro hx
  exact ⟨rfl, hx⟩

set_option maxRecDepth 100000 in
theorem FnExactNewScan_lifted (os : Os) (started : os.Started) (H : Type) (enc : TypeId × Value → H) :
    ReturnsInHanded {} Try.checked os 3 .any (Rows.fnExactNewScanSpec.pre6 enc Try.prog Try.f3 Rows.fnExactNewScanRow.domain false) (Rows.fnExactNewScanSpec.post enc Try.prog Try.f3 false true false false) := by
  refine returnsInHanded_of_change (C := Try.checked) own started (by kernel_rfl) Try.func3
    (ChangeSpec.witness6 (enc := enc) (C := Try.checked) false ⟨#[], #[.int .i64 0], []⟩ 8 (by kernel_rfl) (by kernel_rfl) (by kernel_rfl) (by kernel_rfl)) ?_
  intro W base args ds gs before hval0 hW hcnd _
  have hval : ∀ (j : Nat) t v, Try.f3.params[j]? = some t → args[j]? = some v → Value.okWide Try.prog W .any base t v := hval0
  have hW' := hW
  obtain ⟨p, q, hA0, hV, rfl, hfz, hnd⟩ := hW
  have hA : DataW.TrodAll enc Try.prog W 0 (fun _ => true) true Try.f3.params.toList args.toList ds p := hA0
  rw [Try.params3] at hA hval
  obtain ⟨v0, vs0, d0, ds0, p0, q0, hargs, rfl, rfl, h0, r0⟩ := trodAll_cons hA
  obtain ⟨rfl, rfl, rfl⟩ := trodAll_nil r0
  obtain rfl : args = #[v0] := by cases args; simp_all
  obtain ⟨rfl, rfl⟩ := trodVars_none hV
  obtain ⟨a0, rfl, rfl, rfl, w0⟩ := open_int Try.underlying3 (hval 0 3 v0 rfl rfl) h0
  clear hA0 hval0
  refine (FnExactNewScan_w W a0 (wf64 w0)).mono fun e W' ⟨he, x⟩ => ?_
  subst he
  have bel := x.toBelow
  exact ⟨_, rfl, _, _, _, [], _, [], hW', trodAll_mk1 (shut_bool Try.underlying4 _), (trodAll_cons_mk (shut_int Try.underlying3 w0) trodAll_mk0), rfl, bel.frame _, fun h => by cases h⟩
theorem FnExactNewScan_holds : Rows.fnExactNewScanRow.holds Try.pinned (OpenSpec.ofChange Rows.fnExactNewScanSpec) :=
  OpenClaim.holds_of_wide 3 Try.f3 rfl rfl rfl rfl rfl rfl rfl ⟨rfl, rfl, rfl, rfl, rfl⟩ rfl rfl rfl rfl rfl (by kernel_rfl) Try.func3 (by kernel_rfl)
    (of_decide_eq_true (by kernel_rfl)) (by unfold Func.isWrapper; first | (rw [if_pos (by decide +kernel)]; kernel_rfl) | (rw [if_neg (by decide +kernel)]; exact ⟨rfl, rfl⟩))
    (fun os started H enc _ => FnExactNewScan_lifted os started H enc)
end Go.Proofs.Ytckflfckaobfnaa

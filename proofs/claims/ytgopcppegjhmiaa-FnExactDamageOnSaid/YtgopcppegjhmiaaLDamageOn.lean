/- FnExactDamageOn returns true for every argument and leaves its arguments as they were. -/
import Derived.Test.YtgopcppegjhmiaaRows
import Derived.Test.YtgopcppegjhmiaaRep4
namespace Go.Proofs.Ytgopcppegjhmiaa
open Go Go.X Go.Proofs Go.ChangeShapes Go.WideShapes Go.ChangeAt Go.RowKit
open Go.ChangeMaps (open_string shut_string)
set_option maxHeartbeats 1000000
set_option maxRecDepth 20000
set_option linter.unusedVariables false
set_option linter.unusedSimpArgs false
theorem FnExactDamageOn_w (w : World) (a0 : Option Addr) (n0 c0 : Nat) (xs : List Dmg) (hr : Row w a0 4 (xs.map encDmg)) (hn : xs.length = n0) (hm : n0 ≤ 9223372036854775807) (_hg : ∀ x ∈ xs, fitDmg x) (a1 : Option Addr) (n1 c1 : Nat) (ys : List Rep) (hs : Row w a1 3 (ys.map encRep)) (hn2 : ys.length = n1) (hm2 : n1 ≤ 9223372036854775807) (_hg2 : ∀ x ∈ ys, fitRep x) (i0 : Int) (h0 : -9223372036854775808 ≤ i0 ∧ i0 ≤ 9223372036854775807) (i1 : Int) (h1 : -9223372036854775808 ≤ i1 ∧ i1 ≤ 9223372036854775807) :
    Calls Try.prog 4 #[.slice a0 n0 c0, .slice a1 n1 c1, .int .i64 i0, .int .i64 i1] w fun e w' => e = .returned (.bool true) ∧ E0 w w' := by
  refine enterK Non 67 Try.func4 rfl rfl rfl fun K hK => ?_
  rcases Nat.lt_or_ge 1048576 n0 with hbig | hbig
  · repeat (any_goals (
      conv => whnf
      first
      | ((with_reducible refine callF (g := 8) ?_ ?_); kernel_rfl; refine ⟨_, szDmgS_no _ _ _ _ _ (by omega), ?_⟩; intro w4 e4; have z4 := cutLe e4)
      | ((with_reducible refine BIF.s (fun h => absurd h ?_) (fun _ => ?_)); focus (first | (simp; done) | (simp; omega)))
      | ((with_reducible refine BIF.s (fun _ => ?_) (fun h => absurd h ?_)); rotate_left; focus (first | (simp; done) | (simp; omega)))
      | ((with_reducible refine BIF.dec ?_ ?_) <;> intro _)
      | ((with_reducible refine BIF.s ?_ ?_) <;> intro _)
      | (with_reducible refine NEXTK.normal ?_)
      | (with_reducible refine NEXTK.ret ?_)
      | (with_reducible refine NEXTK.exit ?_)
      | (with_reducible refine SEQ.plain ?_)
      | (with_reducible refine hK _ _ ?_)
      | ((with_reducible refine RUNL.agg (fun _ => ?_) ?_); (focus kernel_rfl))
      | (with_reducible refine RUNL.run ?_)
      | ((with_reducible refine AR.ok ?_ ?_); exact ⟨by first | omega | (dsimp only; omega), by first | omega | (dsimp only; omega)⟩)
      | (with_reducible refine AR.wr ?_)
      | ((with_reducible intro w3 e3); try have z3 := cutLe e3)
      | ((with_reducible intro h3); have h4 := Nat.le_of_lt h3; clear h4)))
    intro hx
    exact ⟨rfl, hx⟩
  rcases Nat.lt_or_ge 1048576 (n0 + n1) with hbig2 | hbig2
  · repeat (any_goals (
      conv => whnf
      first
      | ((with_reducible refine callF (g := 8) ?_ ?_); kernel_rfl; refine ⟨_, szDmgS_ok _ _ _ _ _ (by omega), ?_⟩; intro w4 e4; have z4 := cutLe e4)
      | ((with_reducible refine callF (g := 17) ?_ ?_); kernel_rfl; refine ⟨_, szRepS_no _ _ _ _ _ (by omega), ?_⟩; intro w4 e4; have z4 := cutLe e4)
      | ((with_reducible refine BIF.s (fun h => absurd h ?_) (fun _ => ?_)); focus (first | (simp; done) | (simp; omega)))
      | ((with_reducible refine BIF.s (fun _ => ?_) (fun h => absurd h ?_)); rotate_left; focus (first | (simp; done) | (simp; omega)))
      | ((with_reducible refine BIF.dec ?_ ?_) <;> intro _)
      | ((with_reducible refine BIF.s ?_ ?_) <;> intro _)
      | (with_reducible refine NEXTK.normal ?_)
      | (with_reducible refine NEXTK.ret ?_)
      | (with_reducible refine NEXTK.exit ?_)
      | (with_reducible refine SEQ.plain ?_)
      | (with_reducible refine hK _ _ ?_)
      | ((with_reducible refine RUNL.agg (fun _ => ?_) ?_); (focus kernel_rfl))
      | (with_reducible refine RUNL.run ?_)
      | ((with_reducible refine AR.ok ?_ ?_); exact ⟨by first | omega | (dsimp only; omega), by first | omega | (dsimp only; omega)⟩)
      | (with_reducible refine AR.wr ?_)
      | ((with_reducible intro w3 e3); try have z3 := cutLe e3)
      | ((with_reducible intro h3); have h4 := Nat.le_of_lt h3; clear h4)))
    intro hx
    exact ⟨rfl, hx⟩
  · repeat (any_goals (
      conv => whnf
      first
      | ((with_reducible refine callF (g := 8) ?_ ?_); kernel_rfl; refine ⟨_, szDmgS_ok _ _ _ _ _ (by omega), ?_⟩; intro w4 e4; have z4 := cutLe e4)
      | ((with_reducible refine callF (g := 17) ?_ ?_); kernel_rfl; refine ⟨_, szRepS_ok _ _ _ _ _ (by omega), ?_⟩; intro w4 e4; have z4 := cutLe e4)
      | ((with_reducible refine callY (g := 10) ?_ ?_); kernel_rfl; refine ⟨_, fun _ => toDmgS_c _ _ _ xs _ (by repeat (first | assumption | refine Row.e0 ?_ (by assumption) | (refine Row.box (by assumption) (by assumption) (fun k hk h => notBk hk h (Nat.le_refl _)) ?_))) hn (by omega), ?_⟩; intro r5 w5 e5 o5; have z6 := cutLe e5; obtain ⟨b5, d5, rfl, q5, z5⟩ := o5.rowx)
      | ((with_reducible refine callY (g := 19) ?_ ?_); kernel_rfl; refine ⟨_, fun _ => toRepS_c _ _ _ ys _ (by repeat (first | assumption | refine Row.e0 ?_ (by assumption) | (refine Row.box (by assumption) (by assumption) (fun k hk h => notBk hk h (Nat.le_refl _)) ?_))) hn2 (by omega), ?_⟩; intro r5 w5 e5 o5; have z6 := cutLe e5; obtain ⟨b5, d5, rfl, q5, z5⟩ := o5.rowx)
      | ((with_reducible refine callF (g := 18) ?_ ?_); kernel_rfl; refine ⟨_, DamageOnS_c _ _ _ _ _ _ xs ys _ _ _ (by repeat (first | assumption | refine Row.e0 ?_ (by assumption) | (refine Row.box (by assumption) (by assumption) (fun k hk h => notBk hk h (Nat.le_refl _)) ?_))) (by repeat (first | assumption | refine Row.e0 ?_ (by assumption) | (refine Row.box (by assumption) (by assumption) (fun k hk h => notBk hk h (Nat.le_refl _)) ?_))) rfl rfl (by omega) (by omega) (by assumption), ?_⟩; intro w4 e4; have z4 := cutLe e4)
      | ((with_reducible refine callF (g := 20) ?_ ?_); kernel_rfl; refine ⟨_, DamageOn_c _ _ _ _ _ _ xs ys _ _ _ (by repeat (first | assumption | refine Row.e0 ?_ (by assumption) | (refine Row.box (by assumption) (by assumption) (fun k hk h => notBk hk h (Nat.le_refl _)) ?_))) (by repeat (first | assumption | refine Row.e0 ?_ (by assumption) | (refine Row.box (by assumption) (by assumption) (fun k hk h => notBk hk h (Nat.le_refl _)) ?_))) rfl rfl (by omega) (by omega) (by assumption), ?_⟩; intro w4 e4; have z4 := cutLe e4)
      | ((with_reducible refine callF (g := 21) ?_ ?_); kernel_rfl; refine ⟨_, eqDmg_c _ _ _, ?_⟩; intro w4 e4; have z4 := cutLe e4)
      | ((with_reducible refine callF (g := 13) ?_ ?_); kernel_rfl; refine ⟨_, eqDmgS_c _ _ _ _ _ _ xs xs _ (by repeat (first | assumption | refine Row.e0 ?_ (by assumption) | (refine Row.box (by assumption) (by assumption) (fun k hk h => notBk hk h (Nat.le_refl _)) ?_))) (by repeat (first | assumption | refine Row.e0 ?_ (by assumption) | (refine Row.box (by assumption) (by assumption) (fun k hk h => notBk hk h (Nat.le_refl _)) ?_))) rfl rfl (by omega) (by omega), ?_⟩; intro w4 e4; have z4 := cutLe e4)
      | ((with_reducible refine callF (g := 22) ?_ ?_); kernel_rfl; refine ⟨_, eqRepS_c _ _ _ _ _ _ ys ys _ (by repeat (first | assumption | refine Row.e0 ?_ (by assumption) | (refine Row.box (by assumption) (by assumption) (fun k hk h => notBk hk h (Nat.le_refl _)) ?_))) (by repeat (first | assumption | refine Row.e0 ?_ (by assumption) | (refine Row.box (by assumption) (by assumption) (fun k hk h => notBk hk h (Nat.le_refl _)) ?_))) rfl rfl (by omega) (by omega), ?_⟩; intro w4 e4; have z4 := cutLe e4)
      | ((with_reducible refine BIF.s (fun h => absurd h ?_) (fun _ => ?_)); focus (first | (simp; done) | (simp; omega)))
      | ((with_reducible refine BIF.s (fun _ => ?_) (fun h => absurd h ?_)); rotate_left; focus (first | (simp; done) | (simp; omega)))
      | ((with_reducible refine BIF.dec ?_ ?_) <;> intro _)
      | ((with_reducible refine BIF.s ?_ ?_) <;> intro _)
      | (with_reducible refine NEXTK.normal ?_)
      | (with_reducible refine NEXTK.ret ?_)
      | (with_reducible refine NEXTK.exit ?_)
      | (with_reducible refine SEQ.plain ?_)
      | (with_reducible refine hK _ _ ?_)
      | ((with_reducible refine RUNL.agg (fun _ => ?_) ?_); (focus kernel_rfl))
      | (with_reducible refine RUNL.run ?_)
      | ((with_reducible refine AR.ok ?_ ?_); exact ⟨by first | omega | (dsimp only; omega), by first | omega | (dsimp only; omega)⟩)
      | (with_reducible refine AR.wr ?_)
      | ((with_reducible intro w3 e3); try have z3 := cutLe e3)
      | ((with_reducible intro h3); have h4 := Nat.le_of_lt h3; clear h4)))
    intro hx
    exact ⟨rfl, hx⟩
set_option maxRecDepth 100000 in
theorem FnExactDamageOn_lifted (os : Os) (started : os.Started) (H : Type) (enc : TypeId × Value → H) :
    ReturnsInHanded {} Try.checked os 4 .any (Rows.fnExactDamageOnSpec.pre6 enc Try.prog Try.f4 Rows.fnExactDamageOnRow.domain false) (Rows.fnExactDamageOnSpec.post enc Try.prog Try.f4 false true false false) := by
  refine returnsInHanded_of_change (C := Try.checked) own started (by kernel_rfl) Try.func4
    (ChangeSpec.witness6 (enc := enc) (C := Try.checked) false ⟨#[], #[.slice none 0 0, .slice none 0 0, .int .i64 0, .int .i64 0], []⟩ 8 (by kernel_rfl) (by kernel_rfl) (by kernel_rfl) (by kernel_rfl)) ?_
  intro W base args ds gs before hval0 hW hcnd _
  have hval : ∀ (j : Nat) t v, Try.f4.params[j]? = some t → args[j]? = some v → Value.okWide Try.prog W .any base t v := hval0
  have hW' := hW
  obtain ⟨p, q, hA0, hV, rfl, hfz, hnd⟩ := hW
  have hA : DataW.TrodAll enc Try.prog W 0 (fun _ => true) true Try.f4.params.toList args.toList ds p := hA0
  rw [Try.params4] at hA hval
  obtain ⟨v0, vs0, d0, ds0, p0, q0, hargs, rfl, rfl, h0, r0⟩ := trodAll_cons hA
  obtain ⟨v1, vs1, d1, ds1, p1, q1, rfl, rfl, rfl, h1, r1⟩ := trodAll_cons r0
  obtain ⟨v2, vs2, d2, ds2, p2, q2, rfl, rfl, rfl, h2, r2⟩ := trodAll_cons r1
  obtain ⟨v3, vs3, d3, ds3, p3, q3, rfl, rfl, rfl, h3, r3⟩ := trodAll_cons r2
  obtain ⟨rfl, rfl, rfl⟩ := trodAll_nil r3
  obtain rfl : args = #[v0, v1, v2, v3] := by cases args; simp_all
  obtain ⟨rfl, rfl⟩ := trodVars_none hV
  obtain ⟨a0, n0, c0, rfl⟩ := okWide_slice Try.underlying22 (hval 0 22 v0 rfl rfl)
  have k0 := h0
  have lt0 : ∀ x ∈ p0, x.block < W.heap.size := by obtain ⟨m, hm⟩ := k0; exact DataW.trod_lt m _ _ _ hm
  obtain ⟨xs0, w0, l0, b0, g0⟩ := open_rows Try.underlying22 (by kernel_rfl) cellsDmg h0
  obtain ⟨a1, n1, c1, rfl⟩ := okWide_slice Try.underlying34 (hval 1 34 v1 rfl rfl)
  have k1 := h1
  have lt1 : ∀ x ∈ p1, x.block < W.heap.size := by obtain ⟨m, hm⟩ := k1; exact DataW.trod_lt m _ _ _ hm
  obtain ⟨xs1, w1, l1, b1, g1⟩ := open_rows Try.underlying34 (by kernel_rfl) cellsRep h1
  obtain ⟨a2, rfl, rfl, rfl, w2⟩ := open_int Try.underlying3 (hval 2 3 v2 rfl rfl) h2
  obtain ⟨a3, rfl, rfl, rfl, w3⟩ := open_int Try.underlying3 (hval 3 3 v3 rfl rfl) h3
  clear hA0 hval0
  refine (FnExactDamageOn_w W a0 n0 c0 xs0 w0 l0 b0 g0 a1 n1 c1 xs1 w1 l1 b1 g1 a2 (wf64 w2) a3 (wf64 w3)).mono fun e W' ⟨he, x⟩ => ?_
  subst he
  have bel := x.toBelow
  exact ⟨_, rfl, _, _, _, [], _, [], hW', trodAll_mk1 (shut_bool Try.underlying4 _), (trodAll_cons_mk (Below.trod laidOut (by kernel_rfl) (of_decide_eq_true (by kernel_rfl)) k0 bel lt0) (trodAll_cons_mk (Below.trod laidOut (by kernel_rfl) (of_decide_eq_true (by kernel_rfl)) k1 bel lt1) (trodAll_cons_mk (shut_int Try.underlying3 w2) (trodAll_cons_mk (shut_int Try.underlying3 w3) trodAll_mk0)))), rfl, bel.frame _, fun h => by cases h⟩
theorem FnExactDamageOn_holds : Rows.fnExactDamageOnRow.holds Try.pinned (OpenSpec.ofChange Rows.fnExactDamageOnSpec) :=
  OpenClaim.holds_of_wide 4 Try.f4 rfl rfl rfl rfl rfl rfl rfl ⟨rfl, rfl, rfl, rfl, rfl⟩ rfl rfl rfl rfl rfl (by kernel_rfl) Try.func4 (by kernel_rfl)
    (of_decide_eq_true (by kernel_rfl)) (by unfold Func.isWrapper; first | (rw [if_pos (by decide +kernel)]; kernel_rfl) | (rw [if_neg (by decide +kernel)]; exact ⟨rfl, rfl⟩))
    (fun os started H enc _ => FnExactDamageOn_lifted os started H enc)
end Go.Proofs.Ytgopcppegjhmiaa

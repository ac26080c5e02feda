/- FnExactWorstTile returns true for every argument and leaves its arguments as they were. -/
import Derived.Test.YtckflfckaobfnaaRows
import Derived.Test.YtckflfckaobfnaaScan9
import Derived.Test.YtckflfckaobfnaaScan3
import Derived.Test.YtckflfckaobfnaaScan4
namespace Go.Proofs.Ytckflfckaobfnaa
open Go Go.X Go.Proofs Go.ChangeShapes Go.WideShapes Go.ChangeAt Go.RowKit
open Go.ChangeMaps (open_string shut_string)
set_option maxHeartbeats 1000000
set_option maxRecDepth 20000
set_option linter.unusedVariables false
set_option linter.unusedSimpArgs false
theorem FnExactWorstTile_w (w : World) (j : Job) (a : Option Addr) (n c : Nat) (hr : Row w a 1 (j.fTiles.map encI)) (hn : j.fTiles.length = n) (hm : n ≤ 9223372036854775807) (_hg : fitJob j) :
    Calls Try.prog 7 #[.agg (encJob j a n c).toArray] w fun e w' => e = .returned (.bool true) ∧ E0 w w' := by
  refine enterK Non 49 Try.func7 rfl rfl rfl fun K hK => ?_
  rcases Nat.lt_or_ge 1048576 n with hbig | hbig
  · repeat (any_goals (
      conv => whnf
      first
      | ((with_reducible refine callF (g := 13) ?_ ?_); kernel_rfl; refine ⟨_, szJob_no j _ _ _ _ _ (by omega), ?_⟩; intro w4 e4; have z4 := cutLe e4)
      | ((with_reducible refine BIF.s (fun h => absurd h ?_) (fun _ => ?_)); focus (first | (simp; done) | (simp; omega)))
      | ((with_reducible refine BIF.s (fun _ => ?_) (fun h => absurd h ?_)); rotate_left; focus (first | (simp; done) | (simp; omega)))
      | ((with_reducible refine BIF.dec ?_ ?_) <;> intro _)
      | ((with_reducible refine BIF.s ?_ ?_) <;> intro _)
      | (with_reducible refine NEXTK.normal ?_)
      | (with_reducible refine NEXTK.ret ?_)
      | (with_reducible refine NEXTK.exit ?_)
      | (with_reducible refine SEQ.plain ?_)
      | (with_reducible refine hK _ _ ?_)
      | ((with_reducible refine AR.ok ?_ ?_); exact ⟨by first | omega | (dsimp only; omega), by first | omega | (dsimp only; omega)⟩)
      | (with_reducible refine AR.wr ?_)
      | ((with_reducible intro w3 e3); try have z3 := cutLe e3)
      | ((with_reducible intro h3); have h4 := Nat.le_of_lt h3; clear h4)))
    intro hx
    exact ⟨rfl, hx⟩
  · repeat (any_goals (
      conv => whnf
      first
      | ((with_reducible refine callF (g := 13) ?_ ?_); kernel_rfl; refine ⟨_, szJob_ok j _ _ _ _ _ (by omega), ?_⟩; intro w4 e4; have z4 := cutLe e4)
      | ((with_reducible refine DRAW.plan (id := 10) (.start (.alt 0 (.start (.alt 1 (.start (.alt 2 (.start (.alt 3 (.one 4 .done) .stop)) .stop)) .stop)) (.alt 1 (.start (.alt 0 (.start (.alt 2 (.start (.alt 3 (.one 4 .done) .stop)) .stop)) (.alt 2 (.start (.alt 0 (.start (.alt 3 (.one 4 .done) .stop)) .stop)) .stop))) .stop))) ?_ ?_ ?_ ?_); kernel_rfl; kernel_rfl; kernel_rfl)
      | ((with_reducible refine callY (g := 15) ?_ ?_); kernel_rfl; refine ⟨_, fun x => toJob_c j _ _ _ _ (hr.ext x (mAddr_Non _)) hn (by omega), ?_⟩; intro r5 w5 e5 oN; have z6 := cutLe e5; (try (have p5 := q5.e0 e5)); obtain ⟨a5, c5, rfl, o5⟩ := oN; obtain ⟨a6, c6, h6, q5, z5⟩ := o5.rowx; cases h6; have oL := fun k h => o5.block (k := k) h)
      | ((with_reducible intro w3 e3); have z3 := cutLe e3; replace o5 := o5.ext e3 (by first | exact fun _ _ h => h | (intro k hk h; have hh := oL k hk; simp only [bk] at h; omega)) ; have q5 := o5.row.1)
      | ((with_reducible refine callF (g := 21) ?_ ?_); kernel_rfl; refine ⟨_, WorstTileS_c j _ _ _ _ (by repeat (first | assumption | refine Row.e0 ?_ (by assumption))) (by first | exact hn | rfl) (by omega), ?_⟩; intro w4 e4; have z4 := cutLe e4)
      | ((with_reducible refine callF (g := 22) ?_ ?_); kernel_rfl; refine ⟨_, WorstTile_c j _ _ _ _ (by repeat (first | assumption | refine Row.e0 ?_ (by assumption))) (by first | exact hn | rfl) (by omega) (by assumption), ?_⟩; intro w4 e4; have z4 := cutLe e4)
      | ((with_reducible refine callF (g := 10) ?_ ?_); kernel_rfl; refine ⟨_, eqScanJob_c j j _ _ _ _ _ _ _ (by repeat (first | assumption | refine Row.e0 ?_ (by assumption))) (by repeat (first | assumption | refine Row.e0 ?_ (by assumption))) rfl rfl (by omega) (by omega), ?_⟩; intro w4 e4; have z4 := cutLe e4)
      | ((with_reducible refine BIF.s (fun h => absurd h ?_) (fun _ => ?_)); focus (first | (simp; done) | (simp; omega)))
      | ((with_reducible refine BIF.s (fun _ => ?_) (fun h => absurd h ?_)); rotate_left; focus (first | (simp; done) | (simp; omega)))
      | (with_reducible refine And.intro ?_ ?_)
      | (exact True.intro)
      | ((with_reducible refine BIF.dec ?_ ?_) <;> intro _)
      | ((with_reducible refine BIF.s ?_ ?_) <;> intro _)
      | (with_reducible refine NEXTK.normal ?_)
      | (with_reducible refine NEXTK.ret ?_)
      | (with_reducible refine NEXTK.exit ?_)
      | (with_reducible refine SEQ.plain ?_)
      | (with_reducible refine hK _ _ ?_)
      | ((with_reducible refine AR.ok ?_ ?_); exact ⟨by first | omega | (dsimp only; omega), by first | omega | (dsimp only; omega)⟩)
      | (with_reducible refine AR.wr ?_)
      | ((with_reducible intro w3 e3); try have z3 := cutLe e3)
      | ((with_reducible intro h3); have h4 := Nat.le_of_lt h3; clear h4)))
    all_goals
      intro hx
      exact ⟨rfl, hx⟩
set_option maxRecDepth 100000 in
theorem FnExactWorstTile_lifted (os : Os) (started : os.Started) (H : Type) (enc : TypeId × Value → H) :
    ReturnsInHanded {} Try.checked os 7 .any (Rows.fnExactWorstTileSpec.pre6 enc Try.prog Try.f7 Rows.fnExactWorstTileRow.domain false) (Rows.fnExactWorstTileSpec.post enc Try.prog Try.f7 false true false false) := by
  refine returnsInHanded_of_change (C := Try.checked) own started (by kernel_rfl) Try.func7
    (ChangeSpec.witness6 (enc := enc) (C := Try.checked) false ⟨#[], #[.agg #[.int .i64 0, .slice none 0 0, .int .i64 0, .int .i64 0, .int .i64 0]], []⟩ 8 (by kernel_rfl) (by kernel_rfl) (by kernel_rfl) (by kernel_rfl)) ?_
  intro W base args ds gs before hval0 hW hcnd _
  have hval : ∀ (j : Nat) t v, Try.f7.params[j]? = some t → args[j]? = some v → Value.okWide Try.prog W .any base t v := hval0
  have hW' := hW
  obtain ⟨p, q, hA0, hV, rfl, hfz, hnd⟩ := hW
  have hA : DataW.TrodAll enc Try.prog W 0 (fun _ => true) true Try.f7.params.toList args.toList ds p := hA0
  rw [Try.params7] at hA hval
  obtain ⟨v0, vs0, d0, ds0, p0, q0, hargs, rfl, rfl, h0, r0⟩ := trodAll_cons hA
  obtain ⟨rfl, rfl, rfl⟩ := trodAll_nil r0
  obtain rfl : args = #[v0] := by cases args; simp_all
  obtain ⟨rfl, rfl⟩ := trodVars_none hV
  obtain ⟨ca0, rfl, za0⟩ := okWide_struct Try.underlying30 (hval 0 30 v0 rfl rfl)
  have k0 := h0
  have lt0 : ∀ x ∈ p0, x.block < W.heap.size := by obtain ⟨m, hm⟩ := k0; exact DataW.trod_lt m _ _ _ hm
  obtain ⟨m0, hm0⟩ := h0
  obtain ⟨y0, a0, n0, c0, ec0, w0, l0, b0, g0⟩ := cellsJob m0 ca0.toList _ (za0.trans (by kernel_rfl)) hm0
  obtain rfl : ca0 = (encJob y0 a0 n0 c0).toArray := by rw [← ec0]
  clear hA0 hval0
  refine (FnExactWorstTile_w W y0 a0 n0 c0 w0 l0 b0 g0).mono fun e W' ⟨he, x⟩ => ?_
  subst he
  have bel := x.toBelow
  exact ⟨_, rfl, _, _, _, [], _, [], hW', trodAll_mk1 (shut_bool Try.underlying4 _), (trodAll_cons_mk (Below.trod laidOut (by kernel_rfl) (of_decide_eq_true (by kernel_rfl)) k0 bel lt0) trodAll_mk0), rfl, bel.frame _, fun h => by cases h⟩
theorem FnExactWorstTile_holds : Rows.fnExactWorstTileRow.holds Try.pinned (OpenSpec.ofChange Rows.fnExactWorstTileSpec) :=
  OpenClaim.holds_of_wide 7 Try.f7 rfl rfl rfl rfl rfl rfl rfl ⟨rfl, rfl, rfl, rfl, rfl⟩ rfl rfl rfl rfl rfl (by kernel_rfl) Try.func7 (by kernel_rfl)
    (of_decide_eq_true (by kernel_rfl)) (by unfold Func.isWrapper; first | (rw [if_pos (by decide +kernel)]; kernel_rfl) | (rw [if_neg (by decide +kernel)]; exact ⟨rfl, rfl⟩))
    (fun os started H enc _ => FnExactWorstTile_lifted os started H enc)
end Go.Proofs.Ytckflfckaobfnaa

/- The text of a job is the same in the program and in its specification. -/
import Derived.Test.YtlnihghpfikieaaDoorRows
import Derived.Test.YtlnihghpfikieaaDoorJText
import Derived.Test.YtlnihghpfikieaaDoorScan3
import Derived.Test.YtlnihghpfikieaaDoorScan4
import Derived.Test.YtlnihghpfikieaaDoorCards
import Derived.Test.YtlnihghpfikieaaDoorTie
import Derived.LaidMore
import Derived.Stop.Joined
import Derived.SevenTiedAt
import Derived.Handed
namespace Go.Proofs.YtlnihghpfikieaaDoor
open Go Go.X Go.Proofs Go.ChangeShapes Go.WideShapes Go.ChangeAt Go.RowKit
open Go.ChangeMaps (open_string shut_string)
set_option maxHeartbeats 1000000
set_option maxRecDepth 20000
set_option linter.unusedVariables false
set_option linter.unusedSimpArgs false
theorem FnExactJobText_w (w : World) (ht : Tab w) (j : Job) (a : Option Addr) (n c : Nat) (hr : Row w a 1 (j.fTiles.map encI)) (hn : j.fTiles.length = n) (hm : n ≤ 9223372036854775807) (_hg : fitJob j) :
    Calls Tryd.prog 3 #[.agg (encJob j a n c).toArray] w fun e w' => e = .returned (.bool true) ∧ E0 w w' := by
  refine enterK Non 40 Tryd.func3 rfl rfl rfl fun K hK => ?_
  rcases Nat.lt_or_ge 1048576 n with hbig | hbig
  · repeat (any_goals (
      conv => whnf
      first
      | ((with_reducible refine callF (g := 4) ?_ ?_); kernel_rfl; refine ⟨_, szJob_no j _ _ _ _ _ (by omega), ?_⟩; intro w4 e4; have z4 := cutLe e4)
      | ((with_reducible refine BIF.s (fun h => absurd h ?_) (fun _ => ?_)); focus (first | (simp; done) | (simp; omega)))
      | ((with_reducible refine BIF.s (fun _ => ?_) (fun h => absurd h ?_)); rotate_left; focus (first | (simp; done) | (simp; omega)))
      | ((with_reducible refine BIF.dec ?_ ?_) <;> intro _)
      | ((with_reducible refine BIF.s ?_ ?_) <;> intro _)
      | (with_reducible refine NEXTK.normal ?_)
      | (with_reducible refine NEXTK.ret ?_)
      | (with_reducible refine NEXTK.exit ?_)
      | (with_reducible refine SEQ.plain ?_)
      | (with_reducible refine hK _ _ ?_)
      | ((with_reducible refine RUNL.agg (fun _ => ?_) ?_); (focus kernel_rfl))
      | (with_reducible refine RUNL.run ?_)
      | ((with_reducible refine AR.ok ?_ ?_); exact ⟨by first | omega | (dsimp only; omega), by first | omega | (dsimp only; omega)⟩)
      | (with_reducible refine AR.wr ?_)
      | ((with_reducible intro w3 e3); try have z3 := cutLe e3)
      | ((with_reducible intro h3); have h4 := Nat.le_of_lt h3; clear h4)))
    intro hx
    exact ⟨rfl, hx⟩
  · repeat (any_goals (
      conv => whnf
      first
      | ((with_reducible refine callF (g := 4) ?_ ?_); kernel_rfl; refine ⟨_, szJob_ok j _ _ _ _ _ (by omega), ?_⟩; intro w4 e4; have z4 := cutLe e4)
      | ((with_reducible refine DRAW.plan (id := 10) (.start (.alt 0 (.start (.alt 1 (.start (.alt 2 (.start (.alt 3 (.one 4 .done) .stop)) .stop)) .stop)) (.alt 1 (.start (.alt 0 (.start (.alt 2 (.start (.alt 3 (.one 4 .done) .stop)) .stop)) (.alt 2 (.start (.alt 0 (.start (.alt 3 (.one 4 .done) .stop)) .stop)) .stop))) .stop))) ?_ ?_ ?_ ?_); kernel_rfl; kernel_rfl; kernel_rfl)
      | ((with_reducible refine callY (g := 6) ?_ ?_); kernel_rfl; refine ⟨_, fun x => toJob_c j _ _ _ _ (hr.ext x (mAddr_Non _)) hn (by omega), ?_⟩; intro r5 w5 e5 oN; have z6 := cutLe e5; (try (have p5 := q5.e0 e5)); obtain ⟨a5, c5, rfl, o5⟩ := oN; obtain ⟨a6, c6, h6, q5, z5⟩ := o5.rowx; cases h6; have oL := fun k h => o5.block (k := k) h)
      | ((with_reducible intro w3 e3); have z3 := cutLe e3; replace o5 := o5.ext e3 (by first | exact fun _ _ h => h | (intro k hk h; have hh := oL k hk; simp only [bk] at h; omega)) ; have q5 := o5.row.1)
      | ((with_reducible refine callF (g := 5) ?_ ?_); kernel_rfl; refine ⟨_, JobTextS_c j _ _ _ _ (by repeat (first | assumption | refine Row.e0 ?_ (by assumption))) (by first | exact hn | rfl) (by omega), ?_⟩; intro w4 e4; have z4 := cutLe e4)
      | ((with_reducible refine callX (g := 7) ?_ ?_); kernel_rfl; intro hX; refine ⟨_, JobText_c j _ _ _ _ (TabIs.e0 ht hX) (by repeat (first | assumption | refine Row.e0 ?_ (by assumption))) (by first | exact hn | rfl) (by omega) (by assumption), ?_⟩; intro w4 e4; have z4 := cutLe e4)
      | ((with_reducible refine callF (g := 8) ?_ ?_); kernel_rfl; refine ⟨_, eqScanJob_c j j _ _ _ _ _ _ _ (by repeat (first | assumption | refine Row.e0 ?_ (by assumption))) (by repeat (first | assumption | refine Row.e0 ?_ (by assumption))) rfl rfl (by omega) (by omega), ?_⟩; intro w4 e4; have z4 := cutLe e4)
      | ((with_reducible refine BIF.s (fun h => absurd h ?_) (fun _ => ?_)); focus (first | (simp; done) | (simp; omega)))
      | ((with_reducible refine BIF.s (fun _ => ?_) (fun h => absurd h ?_)); rotate_left; focus (first | (simp; done) | (simp; omega)))
      | (with_reducible refine And.intro ?_ ?_)
      | (exact True.intro)
      | ((with_reducible refine BIF.dec ?_ ?_) <;> intro _)
      | ((with_reducible refine BIF.s ?_ ?_) <;> intro _)
      | (with_reducible refine NEXTK.normal ?_)
      | (with_reducible refine NEXTK.ret ?_)
      | (with_reducible refine NEXTK.exit ?_)
      | (with_reducible refine SEQ.plain ?_)
      | (with_reducible refine hK _ _ ?_)
      | ((with_reducible refine RUNL.agg (fun _ => ?_) ?_); (focus kernel_rfl))
      | (with_reducible refine RUNL.run ?_)
      | ((with_reducible refine AR.ok ?_ ?_); exact ⟨by first | omega | (dsimp only; omega), by first | omega | (dsimp only; omega)⟩)
      | (with_reducible refine AR.wr ?_)
      | ((with_reducible intro w3 e3); try have z3 := cutLe e3)
      | ((with_reducible intro h3); have h4 := Nat.le_of_lt h3; clear h4)))
    all_goals
      intro hx
      exact ⟨rfl, hx⟩
theorem FnExactJobText_door (os : Os) (args : Array Value) : laidMetH Tryd.prog Rows.fnExactJobTextRow.laid ((World.doorLaid Tryd.prog 400 os).forCall (fun _ _ => 0) ⟨#[], args, []⟩).memory :=
  laidMetH_of_parts3 (fuel := 8) (laidMet_of_run' 8 (by kernel_rfl) (by kernel_rfl)) (by kernel_rfl) (by kernel_rfl)
theorem FnExactJobText_tab {W : World} (h : laidMetH Tryd.prog Rows.fnExactJobTextRow.laid W) : Tab W := by
  rw [MakeChecks.laidMetH_plain _ _ _ (by kernel_rfl)] at h
  obtain ⟨ps, ⟨g0, t0, cs0, f0, p0, q0, hg0, ht0, hv0, hd0, ⟨g1, t1, cs1, f1, p1, q1, hg1, ht1, hv1, hd1, ⟨g2, t2, cs2, f2, p2, q2, hg2, ht2, hv2, hd2, _, _⟩, _⟩, _⟩, _, _⟩ := h
  obtain rfl := Option.some.inj ((show Tryd.prog.globalNamed "internal/strconv.uint64pow10" = some 0 by kernel_rfl).symm.trans hg2)
  obtain rfl := Option.some.inj ((show (Tryd.prog.globals[0]?).map (·.type) = some 57 by kernel_rfl).symm.trans ht2)
  unfold Tab Lib.TabIs
  rw [hv2]
  obtain ⟨cs⟩ := cs2
  have e := Lib.cells_of_tab (n := 20) (k := .u64) (zs := Lib.pow10Tab) Tryd.underlying57 Tryd.underlying49 (by kernel_rfl) (by kernel_rfl) hd2
  exact congrArg some (congrArg Array.mk e)
set_option maxRecDepth 100000 in
theorem FnExactJobText_lifted (os : Os) (started : os.Started) (H : Type) (enc : TypeId × Value → H) :
    ReturnsInHanded {} Tryd.checked os 3 .any (fun w args => (Rows.fnExactJobTextSpec.pre enc Tryd.prog Tryd.f3 [] false w args ∧ laidMetH Tryd.prog Rows.fnExactJobTextRow.laid w) ∧ sizedMet enc Tryd.prog Tryd.f3 (OpenSpec.ofChange Rows.fnExactJobTextSpec) false w args)
      (Rows.fnExactJobTextSpec.post enc Tryd.prog Tryd.f3 false true false false) := by
  refine returnsInHanded_of_change_and (C := Tryd.checked) (X := fun w _ => laidMetH Tryd.prog Rows.fnExactJobTextRow.laid w) (fun _ _ _ hh h => h.of_heap hh) own started (by kernel_rfl) Tryd.func3
    (ChangeSpec.witness_shaped (enc := enc) (C := Tryd.checked) (os := os) (X := fun w _ => laidMetH Tryd.prog Rows.fnExactJobTextRow.laid w) false (World.doorLaid Tryd.prog 400 os) #[.agg #[.int .i64 0, .slice none 0 0, .int .i64 0, .int .i64 0, .int .i64 0]] 8 rfl (World.shaped_of_RefB (by kernel_rfl) (by kernel_rfl)) (by kernel_rfl) (by kernel_rfl) (by kernel_rfl) (FnExactJobText_door os _)) ?_
  intro W base args ds gs before hval0 hW _ _ hL _
  have hval : ∀ (j : Nat) t v, Tryd.f3.params[j]? = some t → args[j]? = some v → Value.okWide Tryd.prog W .any base t v := hval0
  have hW' := hW
  obtain ⟨p, q, hA0, hV, rfl, hfz, hnd⟩ := hW
  have hA : DataW.TrodAll enc Tryd.prog W 0 (fun _ => true) true Tryd.f3.params.toList args.toList ds p := hA0
  rw [Tryd.params3] at hA hval
  obtain ⟨v0, vs0, d0, ds0, p0, q0, hargs, rfl, rfl, h0, r0⟩ := trodAll_cons hA
  obtain ⟨rfl, rfl, rfl⟩ := trodAll_nil r0
  obtain rfl : args = #[v0] := by cases args; simp_all
  obtain ⟨rfl, rfl⟩ := trodVars_none hV
  obtain ⟨ca0, rfl, za0⟩ := okWide_struct Tryd.underlying24 (hval 0 24 v0 rfl rfl)
  have k0 := h0
  have lt0 : ∀ x ∈ p0, x.block < W.heap.size := by obtain ⟨m, hm⟩ := k0; exact DataW.trod_lt m _ _ _ hm
  obtain ⟨m0, hm0⟩ := h0
  obtain ⟨y0, a0, n0, c0, ec0, w0, l0, b0, g0⟩ := cellsJob m0 ca0.toList _ (za0.trans (by kernel_rfl)) hm0
  obtain rfl : ca0 = (encJob y0 a0 n0 c0).toArray := by rw [← ec0]
  clear hA0 hval0
  refine (FnExactJobText_w W (FnExactJobText_tab hL) y0 a0 n0 c0 w0 l0 b0 g0).mono fun e W' ⟨he, x⟩ => ?_
  subst he
  have bel := x.toBelow
  exact ⟨_, rfl, _, _, _, [], _, [], hW', trodAll_mk1 (shut_bool Tryd.underlying4 _), (trodAll_cons_mk (Below.trod laidOut (by kernel_rfl) (of_decide_eq_true (by kernel_rfl)) k0 bel lt0) trodAll_mk0), rfl, bel.frame _, fun h => by cases h⟩
theorem FnExactJobText_row : Rows.fnExactJobTextRow.holds Tryd.pinned (OpenSpec.ofChange Rows.fnExactJobTextSpec) :=
  OpenClaim.holds_of_wide 3 Tryd.f3 rfl rfl rfl rfl rfl rfl rfl ⟨rfl, rfl, rfl, rfl, rfl⟩ rfl rfl rfl rfl rfl (by kernel_rfl) Tryd.func3 (by kernel_rfl)
    (of_decide_eq_true (by kernel_rfl)) (by unfold Func.isWrapper; first | (rw [if_pos (by decide +kernel)]; kernel_rfl) | (rw [if_neg (by decide +kernel)]; exact ⟨rfl, rfl⟩))
    (fun os started H enc _ => FnExactJobText_lifted os started H enc)
theorem FnExactJobText_holds : Rows.FnExactJobTextCardSaid :=
  Claim7.holds_tied_plain_at .later [] [.data, .data, .data] true (true, "0982f1505dbefe45a0a8e9d47156f2a169bb293a4ca2bdf8f20e25544731b355") false
    FnExactJobText_row (fun _ h => by cases h) (by kernel_rfl) (fun _ h => by cases h) fnExactJobText_row_tie rfl ⟨rfl, rfl⟩ (by kernel_rfl) rfl
    (fun f fn hf hfn => by
      obtain rfl : f = 3 := Option.some.inj ((show Tryd.prog.funcNamed Rows.fnExactJobTextRow.func = some 3 by kernel_rfl).symm.trans hf) |>.symm
      obtain rfl : fn = Tryd.f3 := (Option.some.inj (Tryd.func3.symm.trans hfn)).symm
      exact ⟨by kernel_rfl, fun j t ht => by
        rw [Tryd.params3] at ht
        have hm : t ∈ [24] := by simpa using Array.mem_of_getElem? ht
        have hall : ([24].all fun u => !Tryd.prog.wantsStandIn u) = true := by kernel_rfl
        exact (show Tryd.prog.wantsStandIn t = false by simpa using List.all_eq_true.1 hall t hm)⟩)
    (by kernel_rfl)
end Go.Proofs.YtlnihghpfikieaaDoor

/- FnRepairs returns true for every argument and leaves its argument as it was. -/
import Derived.Test.YtgopcppegjhmiaaRows
import Derived.Test.YtgopcppegjhmiaaRepP
import Derived.Test.YtgopcppegjhmiaaDraw4
import Derived.Test.YtgopcppegjhmiaaRlib
namespace Go.Proofs.Ytgopcppegjhmiaa
open Go Go.X Go.Proofs Go.ChangeShapes Go.WideShapes Go.ChangeAt Go.RowKit
open Go.ChangeMaps (open_string shut_string)
set_option maxHeartbeats 1000000
set_option maxRecDepth 20000
set_option linter.unusedVariables false
set_option linter.unusedSimpArgs false
theorem addP_len (xs : List Dmg) (ys : List Rep) (r : Rep) : (addP xs ys r).1.length ≤ ys.length + 1 := by
  unfold addP
  split <;> simp
set_option maxHeartbeats 4000000 in
theorem FnRepairs_w (w : World) (a : Option Addr) (n c : Nat) (bs : List Int) (hr : Row w a 1 (bs.map encB)) (hn : bs.length = n) (hm : n ≤ 9223372036854775807) (hby : ∀ y ∈ bs, 0 ≤ y ∧ y ≤ 255) :
    Calls Try.prog 7 #[.slice a n c] w fun e w' => e = .returned (.bool true) ∧ E0 w w' := by
  refine enterK Non 240 Try.func7 rfl rfl rfl fun K hK => ?_
  by_cases hbig : (65536 : Int) < n
  · repeat (any_goals (
      conv => whnf
      first
      | ((with_reducible refine callF (g := 28) ?_ ?_); kernel_rfl; refine ⟨_, rBig_c _ _ _ _, ?_⟩; intro w4 e4; have z4 := cutLe e4)
      | ((with_reducible refine BIF.s (fun h => absurd h ?_) (fun _ => ?_)); focus (first | (simp; done) | (simp; omega)))
      | ((with_reducible refine BIF.s (fun _ => ?_) (fun h => absurd h ?_)); rotate_left; focus (first | (simp; done) | (simp; omega)))
      | ((with_reducible refine BIF.dec ?_ ?_) <;> intro _)
      | ((with_reducible refine BIF.s ?_ ?_) <;> intro _)
      | (with_reducible refine NEXTK.normal ?_)
      | (with_reducible refine NEXTK.ret ?_)
      | (with_reducible refine NEXTK.exit ?_)
      | (with_reducible refine SEQ.plain ?_)
      | (with_reducible refine hK _ _ ?_)
      | ((with_reducible refine RUNL.agg (fun _ => ?_) ?_); (focus kernel_rfl))
      | (with_reducible refine RUNL.run ?_)
      | ((with_reducible refine AR.ok ?_ ?_); exact ⟨by first | omega | (dsimp only; omega), by first | omega | (dsimp only; omega)⟩)
      | (with_reducible refine AR.wr ?_)
      | ((with_reducible intro w3 e3); try have z3 := cutLe e3)
      | ((with_reducible intro h3); have h4 := Nat.le_of_lt h3; clear h4)))
    intro hx
    exact ⟨rfl, hx⟩
  · have hsm : n ≤ 65536 := by omega
    repeat (any_goals (
      conv => whnf
      first
      | ((with_reducible refine callF (g := 28) ?_ ?_); kernel_rfl; refine ⟨_, rBig_c _ _ _ _, ?_⟩; intro w4 e4; have z4 := cutLe e4)
      | ((with_reducible refine BIF.s (fun h => absurd h ?_) (fun _ => ?_)); focus (first | (simp; done) | (simp; omega)))
      | ((with_reducible refine BIF.s (fun _ => ?_) (fun h => absurd h ?_)); rotate_left; focus (first | (simp; done) | (simp; omega)))
      | ((with_reducible refine callS (g := 29) ?_ ?_); kernel_rfl; refine ⟨_, DrawBestWork_c _ _ _ bs _ (by repeat (first | assumption | refine Row.e0 ?_ (by assumption))) hn hsm hby, ?_⟩; intro r5 w5 e5 h5; have z6 := cutLe e5; obtain ⟨s5, t5, xs, ys, i1, rfl, hi1, ⟨hl5, hf5, o5⟩, hl6, hf6, o6⟩ := h5; obtain ⟨b5, d5, rfl, q5, p5⟩ := o5.rowx; obtain ⟨b6, d6, rfl, q6, p6⟩ := o6.rowx; have hbA := addP_len xs ys ⟨i1, (bestP xs ys i1).1.1, 4000⟩)
      | ((with_reducible refine callF (g := 24) ?_ ?_); kernel_rfl; refine ⟨_, BestWork_c _ _ _ _ _ _ xs ys _ _ (by repeat (first | assumption | refine Row.e0 ?_ (by assumption) | (refine Row.box (by assumption) (by assumption) (fun k hk h => notBk hk h (Nat.le_refl _)) ?_))) (by repeat (first | assumption | refine Row.e0 ?_ (by assumption) | (refine Row.box (by assumption) (by assumption) (fun k hk h => notBk hk h (Nat.le_refl _)) ?_))) rfl rfl (by omega) (by omega) (by assumption), ?_⟩; intro w4 e4; have z4 := cutLe e4)
      | ((with_reducible refine callF (g := 23) ?_ ?_); kernel_rfl; refine ⟨_, BestWorkS_c _ _ _ _ _ _ xs ys _ _ (by repeat (first | assumption | refine Row.e0 ?_ (by assumption) | (refine Row.box (by assumption) (by assumption) (fun k hk h => notBk hk h (Nat.le_refl _)) ?_))) (by repeat (first | assumption | refine Row.e0 ?_ (by assumption) | (refine Row.box (by assumption) (by assumption) (fun k hk h => notBk hk h (Nat.le_refl _)) ?_))) rfl rfl (by omega) (by omega) (by assumption), ?_⟩; intro w4 e4; have z4 := cutLe e4)
      | ((with_reducible refine BIF.s (fun (hok : (bestP xs ys i1).2 = true) => ?_) (fun hok => ?_)); obtain ⟨g1, g2, g3, g4⟩ := best_law hok)
      | ((with_reducible refine BIF.dec ?_ ?_) <;> intro _)
      | ((with_reducible refine BIF.s ?_ ?_) <;> intro _)
      | (with_reducible refine NEXTK.normal ?_)
      | (with_reducible refine NEXTK.ret ?_)
      | (with_reducible refine NEXTK.exit ?_)
      | (with_reducible refine SEQ.plain ?_)
      | (with_reducible refine hK _ _ ?_)
      | ((with_reducible refine RUNL.agg (fun _ => ?_) ?_); (focus kernel_rfl))
      | (with_reducible refine RUNL.run ?_)
      | ((with_reducible refine AR.ok ?_ ?_); exact ⟨by first | omega | (dsimp only; omega), by first | omega | (dsimp only; omega)⟩)
      | (with_reducible refine AR.wr ?_)
      | ((with_reducible intro w3 e3); try have z3 := cutLe e3)
      | ((with_reducible intro h3); have h4 := Nat.le_of_lt h3; clear h4)))
    all_goals
      repeat (any_goals (
        conv => whnf
        first
        | ((with_reducible refine callS (g := 30) ?_ ?_); kernel_rfl; refine ⟨_, AddRepair_c _ _ _ _ _ _ xs ys ⟨i1, (bestP xs ys i1).1.1, 4000⟩ _ (by repeat (first | assumption | refine Row.e0 ?_ (by assumption) | (refine Row.box (by assumption) (by assumption) (fun k hk h => notBk hk h (Nat.le_refl _)) ?_))) (by repeat (first | assumption | refine Row.e0 ?_ (by assumption) | (refine Row.box (by assumption) (by assumption) (fun k hk h => notBk hk h (Nat.le_refl _)) ?_))) rfl rfl (by omega) (by omega) (by assumption), ?_⟩; intro r5 w5 e5 h5; have z6 := cutLe e5; obtain ⟨s5, rfl, o5⟩ := h5; obtain ⟨b5, d5, rfl, q5, p5⟩ := o5.rowx)
        | ((with_reducible refine BIF.s (fun h => absurd h ?_) (fun _ => ?_)); focus (simp [g3]; done))
        | ((with_reducible refine BIF.s (fun _ => ?_) (fun h => absurd h ?_)); rotate_left; focus (simp [g3]; done))
        | ((with_reducible refine BIF.s (fun (hok2 : (addP xs ys ⟨i1, (bestP xs ys i1).1.1, 4000⟩).2 = true) => ?_) (fun hok2 => ?_)); obtain ⟨k1, k2, k3⟩ := g4 hok2)
        | ((with_reducible refine callF (g := 20) ?_ ?_); kernel_rfl; refine ⟨_, DamageOn_c _ _ _ _ _ _ xs (addP xs ys ⟨i1, (bestP xs ys i1).1.1, 4000⟩).1 _ _ _ (by repeat (first | assumption | refine Row.e0 ?_ (by assumption) | (refine Row.box (by assumption) (by assumption) (fun k hk h => notBk hk h (Nat.le_refl _)) ?_))) (by repeat (first | assumption | refine Row.e0 ?_ (by assumption) | (refine Row.box (by assumption) (by assumption) (fun k hk h => notBk hk h (Nat.le_refl _)) ?_))) rfl rfl (by omega) (by omega) (by assumption), ?_⟩; intro w4 e4; have z4 := cutLe e4)
        | ((with_reducible refine callF (g := 31) ?_ ?_); kernel_rfl; refine ⟨_, GradeOf_c _ _, ?_⟩; intro w4 e4; have z4 := cutLe e4)
        | ((with_reducible refine BIF.s (fun h => absurd h ?_) (fun _ => ?_)); focus (simp [k1]; done))
        | ((with_reducible refine BIF.s (fun _ => ?_) (fun h => absurd h ?_)); rotate_left; focus (simp [k1]; done))
        | ((with_reducible refine BIF.s (fun h => absurd h ?_) (fun _ => ?_)); focus (simp [k2]; done))
        | ((with_reducible refine BIF.s (fun _ => ?_) (fun h => absurd h ?_)); rotate_left; focus (simp [k2]; done))
        | ((with_reducible refine BIF.s (fun h => absurd h ?_) (fun _ => ?_)); focus (simp [k2, k3]; done))
        | ((with_reducible refine BIF.s (fun _ => ?_) (fun h => absurd h ?_)); rotate_left; focus (simp [k2, k3]; done))
        | ((with_reducible refine BIF.s (fun h => absurd h ?_) (fun _ => ?_)); focus (first | (simp; done) | (simp; omega)))
        | ((with_reducible refine BIF.s (fun _ => ?_) (fun h => absurd h ?_)); rotate_left; focus (first | (simp; done) | (simp; omega)))
        | ((with_reducible refine callS (g := 32) ?_ ?_); kernel_rfl; refine ⟨_, DrawWorkPlan_c _ _ _ bs _ (by repeat (first | assumption | refine Row.e0 ?_ (by assumption) | (refine Row.box (by assumption) (by assumption) (fun k hk h => notBk hk h (Nat.le_refl _)) ?_))) hn hsm hby, ?_⟩; intro r5 w5 e5 h5; have z6 := cutLe e5; obtain ⟨s5, zs, j1, j2, rfl, hj1, hj2, hlz, hfz, oz⟩ := h5; obtain ⟨bz, dz, rfl, qz, pz⟩ := oz.rowx; have hbW := workP_len zs j1 j2)
        | ((with_reducible refine callS (g := 11) ?_ ?_); kernel_rfl; refine ⟨_, WorkPlan_c _ _ _ zs _ _ _ (by repeat (first | assumption | refine Row.e0 ?_ (by assumption) | (refine Row.box (by assumption) (by assumption) (fun k hk h => notBk hk h (Nat.le_refl _)) ?_))) rfl (by omega), ?_⟩; intro r5 w5 e5 h5; have z6 := cutLe e5; obtain ⟨s5, rfl, op⟩ := h5; obtain ⟨bp, dp, rfl, qp, pp⟩ := op.rowx)
        | ((with_reducible refine callS (g := 9) ?_ ?_); kernel_rfl; refine ⟨_, WorkPlanS_c _ _ _ zs _ _ _ (by repeat (first | assumption | refine Row.e0 ?_ (by assumption) | (refine Row.box (by assumption) (by assumption) (fun k hk h => notBk hk h (Nat.le_refl _)) ?_))) rfl (by omega), ?_⟩; intro r5 w5 e5 h5; have z6 := cutLe e5; obtain ⟨s5, rfl, o5⟩ := h5; obtain ⟨b5, d5, rfl, q5, p5⟩ := o5.rowx)
        | ((with_reducible refine callF (g := 33) ?_ ?_); kernel_rfl; refine ⟨_, rInts_c _ _ _ _ _ _ _ _ _ (by repeat (first | assumption | refine Row.e0 ?_ (by assumption) | (refine Row.box (by assumption) (by assumption) (fun k hk h => notBk hk h (Nat.le_refl _)) ?_))) (by repeat (first | assumption | refine Row.e0 ?_ (by assumption) | (refine Row.box (by assumption) (by assumption) (fun k hk h => notBk hk h (Nat.le_refl _)) ?_))) rfl rfl (by omega) (by omega), ?_⟩; intro w4 e4; have z4 := cutLe e4)
        | ((with_reducible refine BIF.s (fun (hok3 : (workP zs j1 j2).2.2 = true) => ?_) (fun hok3 => ?_)); obtain ⟨m1, m2, m3, m4⟩ := plan_law hok3)
        | ((with_reducible refine BIF.dec ?_ ?_) <;> intro _)
        | ((with_reducible refine BIF.s ?_ ?_) <;> intro _)
        | (with_reducible refine NEXTK.normal ?_)
        | (with_reducible refine NEXTK.ret ?_)
        | (with_reducible refine NEXTK.exit ?_)
        | (with_reducible refine SEQ.plain ?_)
        | (with_reducible refine hK _ _ ?_)
        | ((with_reducible refine RUNL.agg (fun _ => ?_) ?_); (focus kernel_rfl))
        | (with_reducible refine RUNL.run ?_)
        | ((with_reducible refine AR.ok ?_ ?_); exact ⟨by first | omega | (dsimp only; omega), by first | omega | (dsimp only; omega)⟩)
        | (with_reducible refine AR.wr ?_)
        | ((with_reducible intro w3 e3); try have z3 := cutLe e3)
        | ((with_reducible intro h3); have h4 := Nat.le_of_lt h3; clear h4)))
    all_goals first
      | (have rz4 : Row w4 bz 4 (zs.map encDmg) := (by repeat (first | assumption | refine Row.e0 ?_ (by assumption) | (refine Row.box (by assumption) (by assumption) (fun k hk h => notBk hk h (Nat.le_refl _)) ?_)))
         have rp4 : Row w4 bp 1 ((workP zs j1 j2).1.map encI) := (by repeat (first | assumption | refine Row.e0 ?_ (by assumption) | (refine Row.box (by assumption) (by assumption) (fun k hk h => notBk hk h (Nat.le_refl _)) ?_)))
         conv => whnf
         refine bsS elemRep [] rfl rfl (by simp) (by omega) (fun w9 e9 hown => ?_)
         have z9 := cutLe e9
         conv => whnf
         repeat (first | ((with_reducible refine NEXTK.normal ?_); conv => whnf) | ((with_reducible refine NEXTK.exit ?_); conv => whnf) | ((with_reducible refine NEXTK.ret ?_); conv => whnf) | ((with_reducible refine SEQ.plain ?_); conv => whnf) | ((with_reducible refine AR.ok ?_ ?_); exact ⟨by omega, by omega⟩; conv => whnf))
         generalize hpl : (workP zs j1 j2).1 = pl at *
         refine LOOP.mk (Nat × (Option Addr × Nat × Nat)) (fun g => [(28, .v (.int .i64 g.1)), (27, .v (.slice g.2.1 g.2.2.1 g.2.2.2))])
           (fun g wr => g.1 ≤ pl.length ∧ w4.heap.size ≤ wr.heap.size ∧ Row wr bz 4 (zs.map encDmg) ∧ Row wr bp 1 (pl.map encI) ∧ Own wr w4.heap.size 58 3 (.slice g.2.1 g.2.2.1 g.2.2.2) ((worksP j1 (pl.take g.1)).map encRep)) (fun g => pl.length - g.1) (0, (some ⟨w4.heap.size, 0, none⟩, 0, 0)) rfl ⟨rfl, rfl, trivial⟩ ⟨Nat.zero_le _, by show w4.heap.size ≤ w9.heap.size; omega, rz4.e0 e9, rp4.e0 e9, hown⟩ ?_
         clear hown
         rintro ⟨k, ⟨ao, no, co⟩⟩ wr hXr ⟨hk, hz, rz, rp, hown⟩
         have rb := hr.ext hXr (mAddr_Non _)
         clear hXr
         simp only at hk hz rz rp hown
         have oL := fun k h => hown.block (k := k) h
         have hml := hown.row.2
         simp only [worksP, List.length_map, List.length_take] at hml
         dsimp only
         conv => whnf
         repeat (first | ((with_reducible refine NEXTK.normal ?_); conv => whnf) | ((with_reducible refine NEXTK.exit ?_); conv => whnf) | ((with_reducible refine NEXTK.ret ?_); conv => whnf) | ((with_reducible refine SEQ.plain ?_); conv => whnf) | ((with_reducible refine AR.ok ?_ ?_); exact ⟨by omega, by omega⟩; conv => whnf))
         refine BIF.dec (fun hlt => ?_) (fun hlt => ?_)
         · have his := rp.isSome (by simp; omega)
           obtain ⟨v, hv⟩ : ∃ v, pl[k]? = some v := ⟨pl[k]'(by omega), by simp⟩
           have hsn := works_at (s := j1) hv
           repeat (any_goals (
             conv => whnf
             first
             | ((with_reducible refine OBL.mk ?_ (fun _ => ?_)); exact ⟨by first | omega | (dsimp only; omega), by first | omega | (dsimp only; omega), his⟩)
             | ((with_reducible refine ELD.atNow (enc := encI) (xs := pl) k rp rfl (by omega) (fun x' hx' => ?_)); obtain rfl : v = x' := by (rw [hv] at hx'; exact Option.some.inj hx'))
             | ((with_reducible refine RUNL.two (fun _ => ?_) ?_); (focus kernel_rfl))
             | ((with_reducible refine bsS elemRep [.agg (encRep ⟨j1, v, 0⟩).toArray] ?_ ?_ ?_ ?_ ?_); (focus rfl); (focus rfl); (focus (intro v hv; simp at hv; subst hv; rfl)); (focus omega); intro w9 e9 oB; have z9 := cutLe e9; (try replace oC := oC.e0 e9))
             | ((with_reducible refine BIF.dec ?_ ?_) <;> intro _)
             | ((with_reducible refine BIF.s ?_ ?_) <;> intro _)
             | (with_reducible refine NEXTK.normal ?_)
             | (with_reducible refine NEXTK.ret ?_)
             | (with_reducible refine NEXTK.exit ?_)
             | (with_reducible refine SEQ.plain ?_)
             | (with_reducible refine hK _ _ ?_)
             | ((with_reducible refine RUNL.agg (fun _ => ?_) ?_); (focus kernel_rfl))
             | (with_reducible refine RUNL.run ?_)
             | ((with_reducible refine AR.ok ?_ ?_); exact ⟨by first | omega | (dsimp only; omega), by first | omega | (dsimp only; omega)⟩)
             | (with_reducible refine AR.wr ?_)
             | ((with_reducible intro w3 e3); try have z3 := cutLe e3)
             | ((with_reducible intro h3); have h4 := Nat.le_of_lt h3; clear h4)))
           conv => whnf
           replace hown := hown.e0 e9
           refine apS (ns := [encRep ⟨j1, v, 0⟩]) elemRep hown oB.row.1 rfl (by intro l hl; simp at hl; subst hl; rfl) ⟨by simp [worksP]; omega, by simp [worksP]; omega⟩ ⟨(by show w.heap.size ≤ _; omega), by omega⟩ (by repeat (first | exact trivial | (refine ⟨?_, ?_⟩; (focus (intro h; have hh := oL _ h; dsimp only at hh; omega))))) (fun v2 w2 x2 o2 => ?_)
           have z2 := cutLe x2
           replace o2 : Own w2 w4.heap.size 58 3 v2 ((worksP j1 (pl.take (k + 1))).map encRep) := by rw [hsn]; simpa using o2
           have fz : ∀ k', k' < w4.heap.size → ¬ (Value.slice ao no co).ownBlock = some k' := fun k' h1 h2 => by have := (oL k' h2).1; omega
           replace rz := Row.past rz4 (rz.e0 e9) x2 fz
           replace rp := Row.past rp4 (rp.e0 e9) x2 fz
           obtain ⟨b2, d2, rfl, q2, p2⟩ := o2.rowx
           repeat (any_goals (
             conv => whnf
             first
             | ((with_reducible refine BIF.dec ?_ ?_) <;> intro _)
             | ((with_reducible refine BIF.s ?_ ?_) <;> intro _)
             | (with_reducible refine NEXTK.normal ?_)
             | (with_reducible refine NEXTK.ret ?_)
             | (with_reducible refine NEXTK.exit ?_)
             | (with_reducible refine SEQ.plain ?_)
             | (with_reducible refine hK _ _ ?_)
             | ((with_reducible refine RUNL.agg (fun _ => ?_) ?_); (focus kernel_rfl))
             | (with_reducible refine RUNL.run ?_)
             | ((with_reducible refine AR.ok ?_ ?_); exact ⟨by first | omega | (dsimp only; omega), by first | omega | (dsimp only; omega)⟩)
             | (with_reducible refine AR.wr ?_)
             | ((with_reducible intro w3 e3); try have z3 := cutLe e3)
             | ((with_reducible intro h3); have h4 := Nat.le_of_lt h3; clear h4)))
           exact ⟨(k + 1, (b2, _, d2)), rfl, ⟨rfl, rfl, trivial⟩, rfl, rfl, ⟨by simp only; omega, by show w4.heap.size ≤ w2.heap.size; omega, rz, rp, o2⟩, by simp only; omega⟩
         have hkj : k = pl.length := by omega
         rw [hkj, List.take_length] at hown
         obtain ⟨b2, d2, hab, q2, p2⟩ := hown.rowx
         have hwl : (worksP j1 pl).length = pl.length := by simp [worksP]
         simp only [Value.slice.injEq] at hab
         obtain ⟨rfl, rfl, rfl⟩ := hab
         have qw := hown.row.1
         skip)
      | skip
    all_goals
      repeat (any_goals (
        conv => whnf
        first
        | ((with_reducible refine callF (g := 20) ?_ ?_); kernel_rfl; refine ⟨_, DamageOn_c _ _ _ _ _ _ zs (worksP j1 pl) _ _ _ (by repeat (first | assumption | refine Row.e0 ?_ (by assumption) | (refine Row.box (by assumption) (by assumption) (fun k hk h => notBk hk h (Nat.le_refl _)) ?_))) (by repeat (first | assumption | refine Row.e0 ?_ (by assumption) | (refine Row.box (by assumption) (by assumption) (fun k hk h => notBk hk h (Nat.le_refl _)) ?_))) rfl rfl (by omega) (by omega) (by assumption), ?_⟩; intro w4 e4; have z4 := cutLe e4)
        | ((with_reducible refine callF (g := 31) ?_ ?_); kernel_rfl; refine ⟨_, GradeOf_c _ _, ?_⟩; intro w4 e4; have z4 := cutLe e4)
        | ((with_reducible refine BIF.s (fun h => absurd h ?_) (fun _ => ?_)); focus (simp [m2]; done))
        | ((with_reducible refine BIF.s (fun _ => ?_) (fun h => absurd h ?_)); rotate_left; focus (simp [m2]; done))
        | ((with_reducible refine BIF.s (fun h => absurd h ?_) (fun _ => ?_)); focus (simp [m3]; done))
        | ((with_reducible refine BIF.s (fun _ => ?_) (fun h => absurd h ?_)); rotate_left; focus (simp [m3]; done))
        | ((with_reducible refine BIF.s (fun h => absurd h ?_) (fun _ => ?_)); focus (simp [m3, m4]; done))
        | ((with_reducible refine BIF.s (fun _ => ?_) (fun h => absurd h ?_)); rotate_left; focus (simp [m3, m4]; done))
        | ((with_reducible refine BIF.s (fun h => absurd h ?_) (fun _ => ?_)); focus (first | (simp; done) | (simp; omega)))
        | ((with_reducible refine BIF.s (fun _ => ?_) (fun h => absurd h ?_)); rotate_left; focus (first | (simp; done) | (simp; omega)))
        | ((with_reducible refine callS (g := 34) ?_ ?_); kernel_rfl; refine ⟨_, DrawDamageOn_c _ _ _ bs _ (by repeat (first | assumption | refine Row.e0 ?_ (by assumption) | (refine Row.box (by assumption) (by assumption) (fun k hk h => notBk hk h (Nat.le_refl _)) ?_))) hn hsm hby, ?_⟩; intro r5 w5 e5 h5; have z6 := cutLe e5; obtain ⟨s5, t5, us, vs, j3, j4, rfl, hj3, hj4, ⟨hl7, hf7, o7⟩, hl8, hf8, o8⟩ := h5; obtain ⟨b7, d7, rfl, q7, p7⟩ := o7.rowx; obtain ⟨b8, d8, rfl, q8, p8⟩ := o8.rowx)
        | ((with_reducible refine callF (g := 20) ?_ ?_); kernel_rfl; refine ⟨_, DamageOn_c _ _ _ _ _ _ us vs _ _ _ (by repeat (first | assumption | refine Row.e0 ?_ (by assumption) | (refine Row.box (by assumption) (by assumption) (fun k hk h => notBk hk h (Nat.le_refl _)) ?_))) (by repeat (first | assumption | refine Row.e0 ?_ (by assumption) | (refine Row.box (by assumption) (by assumption) (fun k hk h => notBk hk h (Nat.le_refl _)) ?_))) rfl rfl (by omega) (by omega) (by assumption), ?_⟩; intro w4 e4; have z4 := cutLe e4)
        | ((with_reducible refine callF (g := 18) ?_ ?_); kernel_rfl; refine ⟨_, DamageOnS_c _ _ _ _ _ _ us vs _ _ _ (by repeat (first | assumption | refine Row.e0 ?_ (by assumption) | (refine Row.box (by assumption) (by assumption) (fun k hk h => notBk hk h (Nat.le_refl _)) ?_))) (by repeat (first | assumption | refine Row.e0 ?_ (by assumption) | (refine Row.box (by assumption) (by assumption) (fun k hk h => notBk hk h (Nat.le_refl _)) ?_))) rfl rfl (by omega) (by omega) (by assumption), ?_⟩; intro w4 e4; have z4 := cutLe e4)
        | ((with_reducible refine EQA.eql (decide ((dmgOnP us vs j3 j4).1 = (dmgOnP us vs j3 j4).1)) ?_ ?_ ?_); (focus kernel_rfl); (focus (exact eqaDmg _ _)))
        | ((with_reducible refine callF (g := 35) ?_ ?_); kernel_rfl; refine ⟨_, AreDamages_c _ _ _ us _ (by repeat (first | assumption | refine Row.e0 ?_ (by assumption) | (refine Row.box (by assumption) (by assumption) (fun k hk h => notBk hk h (Nat.le_refl _)) ?_))) rfl (by omega), ?_⟩; intro w4 e4; have z4 := cutLe e4)
        | ((with_reducible refine callF (g := 36) ?_ ?_); kernel_rfl; refine ⟨_, AreDamagesS_c _ _ _ us _ (by repeat (first | assumption | refine Row.e0 ?_ (by assumption) | (refine Row.box (by assumption) (by assumption) (fun k hk h => notBk hk h (Nat.le_refl _)) ?_))) rfl (by omega), ?_⟩; intro w4 e4; have z4 := cutLe e4)
        | ((with_reducible refine callF (g := 37) ?_ ?_); kernel_rfl; refine ⟨_, AreRepairs_c _ _ _ _ _ _ us vs _ (by repeat (first | assumption | refine Row.e0 ?_ (by assumption) | (refine Row.box (by assumption) (by assumption) (fun k hk h => notBk hk h (Nat.le_refl _)) ?_))) (by repeat (first | assumption | refine Row.e0 ?_ (by assumption) | (refine Row.box (by assumption) (by assumption) (fun k hk h => notBk hk h (Nat.le_refl _)) ?_))) rfl rfl (by omega) (by omega) (by assumption), ?_⟩; intro w4 e4; have z4 := cutLe e4)
        | ((with_reducible refine callF (g := 38) ?_ ?_); kernel_rfl; refine ⟨_, AreRepairsS_c _ _ _ _ _ _ us vs _ (by repeat (first | assumption | refine Row.e0 ?_ (by assumption) | (refine Row.box (by assumption) (by assumption) (fun k hk h => notBk hk h (Nat.le_refl _)) ?_))) (by repeat (first | assumption | refine Row.e0 ?_ (by assumption) | (refine Row.box (by assumption) (by assumption) (fun k hk h => notBk hk h (Nat.le_refl _)) ?_))) rfl rfl (by omega) (by omega) (by assumption), ?_⟩; intro w4 e4; have z4 := cutLe e4)
        | ((with_reducible refine BIF.dec ?_ ?_) <;> intro _)
        | ((with_reducible refine BIF.s ?_ ?_) <;> intro _)
        | (with_reducible refine NEXTK.normal ?_)
        | (with_reducible refine NEXTK.ret ?_)
        | (with_reducible refine NEXTK.exit ?_)
        | (with_reducible refine SEQ.plain ?_)
        | (with_reducible refine hK _ _ ?_)
        | ((with_reducible refine RUNL.agg (fun _ => ?_) ?_); (focus kernel_rfl))
        | (with_reducible refine RUNL.run ?_)
        | ((with_reducible refine AR.ok ?_ ?_); exact ⟨by first | omega | (dsimp only; omega), by first | omega | (dsimp only; omega)⟩)
        | (with_reducible refine AR.wr ?_)
        | ((with_reducible intro w3 e3); try have z3 := cutLe e3)
        | ((with_reducible intro h3); have h4 := Nat.le_of_lt h3; clear h4)))
    all_goals
      intro hx'
      exact ⟨by simp [resV], hx'⟩

theorem cellsByte {H : Type} {en : TypeId × Value → H} {w : World} {base : Nat} {spare : Nat → Bool} {held : Bool} (n : Nat) (cs : List Value) (x : DataW H × List MemPlace) (hl : cs.length = 1)
    (h : DataW.trod en Try.prog w base spare held n 5 cs = some x) : ∃ y : Int, cs = encB y ∧ (0 ≤ y ∧ y ≤ 255) := by
  match cs, hl with
  | [c0], _ =>
    obtain ⟨z0, q0, -, g0⟩ := DataW.trod_int Try.underlying5 h
    simp at q0
    subst q0
    simp only [Lit.wf, Bool.and_eq_true, decide_eq_true_eq] at g0
    exact ⟨z0, rfl, g0.1, g0.2⟩

set_option maxRecDepth 100000 in
theorem FnRepairs_lifted (os : Os) (started : os.Started) (H : Type) (enc : TypeId × Value → H) :
    ReturnsInHanded {} Try.checked os 7 .any (Rows.fnRepairsSpec.pre6 enc Try.prog Try.f7 Rows.fnRepairsRow.domain false) (Rows.fnRepairsSpec.post enc Try.prog Try.f7 false true false false) := by
  refine returnsInHanded_of_change (C := Try.checked) own started (by kernel_rfl) Try.func7
    (ChangeSpec.witness6 (enc := enc) (C := Try.checked) false ⟨#[], #[.slice none 0 0], []⟩ 8 (by kernel_rfl) (by kernel_rfl) (by kernel_rfl) (by kernel_rfl)) ?_
  intro W base args ds gs before hval0 hW hcnd _
  have hval : ∀ (j : Nat) t v, Try.f7.params[j]? = some t → args[j]? = some v → Value.okWide Try.prog W .any base t v := hval0
  have hW' := hW
  obtain ⟨p, q, hA0, hV, rfl, hfz, hnd⟩ := hW
  have hA : DataW.TrodAll enc Try.prog W 0 (fun _ => true) true Try.f7.params.toList args.toList ds p := hA0
  rw [Try.params7] at hA hval
  obtain ⟨v0, vs0, d0, ds0, p0, q0, hargs, rfl, rfl, h0, r0⟩ := trodAll_cons hA
  obtain ⟨rfl, rfl, rfl⟩ := trodAll_nil r0
  obtain rfl : args = #[v0] := by cases args; simp_all
  obtain ⟨rfl, rfl⟩ := trodVars_none hV
  obtain ⟨a0, n0, c0, rfl⟩ := okWide_slice Try.underlying51 (hval 0 51 v0 rfl rfl)
  have k0 := h0
  have lt0 : ∀ x ∈ p0, x.block < W.heap.size := by obtain ⟨m, hm⟩ := k0; exact DataW.trod_lt m _ _ _ hm
  obtain ⟨xs0, w0, l0, b0, g0⟩ := open_rows Try.underlying51 (by kernel_rfl) cellsByte h0
  clear hA0 hval0
  refine (FnRepairs_w W a0 n0 c0 xs0 w0 l0 b0 g0).mono fun e W' ⟨he, x⟩ => ?_
  subst he
  have bel := x.toBelow
  exact ⟨_, rfl, _, _, _, [], _, [], hW', trodAll_mk1 (shut_bool Try.underlying4 _), (trodAll_cons_mk (Below.trod laidOut (by kernel_rfl) (of_decide_eq_true (by kernel_rfl)) k0 bel lt0) trodAll_mk0), rfl, bel.frame _, fun h => by cases h⟩
theorem FnRepairs_holds : Rows.fnRepairsRow.holds Try.pinned (OpenSpec.ofChange Rows.fnRepairsSpec) :=
  OpenClaim.holds_of_wide 7 Try.f7 rfl rfl rfl rfl rfl rfl rfl ⟨rfl, rfl, rfl, rfl, rfl⟩ rfl rfl rfl rfl rfl (by kernel_rfl) Try.func7 (by kernel_rfl)
    (of_decide_eq_true (by kernel_rfl)) (by unfold Func.isWrapper; first | (rw [if_pos (by decide +kernel)]; kernel_rfl) | (rw [if_neg (by decide +kernel)]; exact ⟨rfl, rfl⟩))
    (fun os started H enc _ => FnRepairs_lifted os started H enc)
end Go.Proofs.Ytgopcppegjhmiaa

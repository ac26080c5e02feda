/- WorkPlan. -/
import Derived.Test.YtgopcppegjhmiaaRows
import Derived.Test.YtgopcppegjhmiaaRep5
namespace Go.Proofs.Ytgopcppegjhmiaa
open Go Go.X Go.Proofs Go.ChangeShapes Go.WideShapes Go.ChangeAt Go.RowKit
open Go.ChangeMaps (open_string shut_string)
set_option maxHeartbeats 1000000
set_option maxRecDepth 20000
set_option linter.unusedVariables false
set_option linter.unusedSimpArgs false
def workP (xs : List Dmg) (s n : Int) : List Int × Int × Bool :=
  if areD xs && decide (0 ≤ dAt xs s) && inB n 0 4 then ((planP n.toNat (xs.getD (dAt xs s).toNat default) false).1, (planP n.toNat (xs.getD (dAt xs s).toNat default) false).2, true) else ([], 0, false)
theorem workP_bad {xs : List Dmg} {s n : Int} (h : ¬ (areD xs = true ∧ 0 ≤ dAt xs s ∧ inB n 0 4 = true)) : workP xs s n = ([], 0, false) := by
  unfold workP
  rw [if_neg (by simpa [and_assoc] using h)]
theorem workP_good {xs : List Dmg} {s n : Int} {k : Nat} {x : Dmg} (h : areD xs = true) (hk : dAt xs s = k) (hx : xs[k]? = some x) (hd : inB n 0 4 = true) : workP xs s n = ((planP n.toNat x false).1, (planP n.toNat x false).2, true) := by
  unfold workP
  rw [if_pos (by simp [h, hk, hd])]
  simp [hk, hx]
theorem workP_len (xs : List Dmg) (s n : Int) : (workP xs s n).1.length ≤ 4 := by
  unfold workP
  split
  · rename_i h
    simp only [Bool.and_eq_true] at h
    have h2 := inB_iff.1 h.2
    have := planP_len n.toNat (xs.getD (dAt xs s).toNat default) false
    simp only; omega
  · simp
theorem WorkPlan_c (a : Option Addr) (n c : Nat) (xs : List Dmg) (s i : Int) (w : World) (hr : Row w a 4 (xs.map encDmg)) (hn : xs.length = n) (hn1 : n ≤ 4611686018427387904) :
    Calls Try.prog 11 #[.slice a n c, .int .i64 s, .int .i64 i] w fun e w' => ∃ r, e = .returned r ∧ E0 w w' ∧ ∃ v, r = .tuple #[v, .int .i64 (workP xs s i).2.1, .bool (workP xs s i).2.2] ∧ Own w' w.heap.size 3 1 v ((workP xs s i).1.map encI) := by
  refine enterK Non 38 Try.func11 rfl rfl rfl fun K hK => ?_
  by_cases hg : areD xs = true ∧ 0 ≤ dAt xs s ∧ inB i 0 4 = true
  · obtain ⟨g1, g2, g3⟩ := hg
    rcases dAt_spec xs s with hi | ⟨k, x, hi, hk, hx, hxs⟩
    · omega
    have his := hr.isSome (by simp; omega)
    have hxo := areD_at g1 hx
    have hib := inB_iff.1 g3
    repeat (any_goals (
      conv => whnf
      first
      | ((with_reducible refine callF (g := 44) ?_ ?_); kernel_rfl; refine ⟨_, damageAt_c _ _ _ xs _ _ (by repeat (first | assumption | refine Row.e0 ?_ (by assumption))) hn hn1, ?_⟩; intro w4 e4; have z4 := cutLe e4)
      | ((with_reducible refine callF (g := 35) ?_ ?_); kernel_rfl; refine ⟨_, AreDamages_c _ _ _ xs _ (by repeat (first | assumption | refine Row.e0 ?_ (by assumption))) hn hn1, ?_⟩; intro w4 e4; have z4 := cutLe e4)
      | ((with_reducible refine callF (g := 45) ?_ ?_); kernel_rfl; refine ⟨_, within_c _ _ _ _, ?_⟩; intro w4 e4; have z4 := cutLe e4)
      | ((with_reducible refine BIF.s (fun h => absurd h ?_) (fun _ => ?_)); focus (simp [g1]; done))
      | ((with_reducible refine BIF.s (fun _ => ?_) (fun h => absurd h ?_)); rotate_left; focus (simp [g1]; done))
      | ((with_reducible refine BIF.s (fun h => absurd h ?_) (fun _ => ?_)); focus (simp [g3]; done))
      | ((with_reducible refine BIF.s (fun _ => ?_) (fun h => absurd h ?_)); rotate_left; focus (simp [g3]; done))
      | ((exfalso; omega))
      | ((with_reducible refine OBL.mk ?_ (fun _ => ?_)); exact ⟨by omega, by omega, his⟩)
      | ((with_reducible refine ELD.at k hr ?_ ?_ hk (fun x' hx' => ?_)); exact mAddr_Non _; omega; obtain rfl : x = x' := by (rw [hx] at hx'; exact Option.some.inj hx'))
      | ((with_reducible refine callS (g := 46) ?_ ?_); kernel_rfl; refine ⟨_, plan_c i.toNat (by omega) i (by omega) x false _ hxo, ?_⟩; intro r5 w5 e5 h5; have z6 := cutLe e5; obtain ⟨s5, rfl, o5⟩ := h5; obtain ⟨b5, d5, rfl, q5, p5⟩ := o5.rowx)
      | ((with_reducible refine BIF.dec ?_ ?_) <;> intro _)
      | ((with_reducible refine BIF.s ?_ ?_) <;> intro _)
      | (with_reducible refine NEXTK.normal ?_)
      | (with_reducible refine NEXTK.ret ?_)
      | (with_reducible refine NEXTK.exit ?_)
      | (with_reducible refine SEQ.plain ?_)
      | (with_reducible refine hK _ _ ?_)
      | ((with_reducible refine RUNL.agg (fun _ => ?_) ?_); (focus kernel_rfl))
      | (with_reducible refine RUNL.run ?_)
      | ((with_reducible refine AR.ok ?_ ?_); exact ⟨by first | omega | (dsimp only; omega), by first | omega | (dsimp only; omega)⟩)
      | (with_reducible refine AR.wr ?_)
      | ((with_reducible intro w3 e3); try have z3 := cutLe e3)
      | ((with_reducible intro h3); have h4 := Nat.le_of_lt h3; clear h4)))
    intro hx'
    rw [workP_good g1 hi hx g3]
    exact ⟨_, rfl, hx', _, rfl, o5.lo (by omega)⟩
  · repeat (any_goals (
      conv => whnf
      first
      | ((with_reducible refine callF (g := 44) ?_ ?_); kernel_rfl; refine ⟨_, damageAt_c _ _ _ xs _ _ (by repeat (first | assumption | refine Row.e0 ?_ (by assumption))) hn hn1, ?_⟩; intro w4 e4; have z4 := cutLe e4)
      | ((with_reducible refine callF (g := 35) ?_ ?_); kernel_rfl; refine ⟨_, AreDamages_c _ _ _ xs _ (by repeat (first | assumption | refine Row.e0 ?_ (by assumption))) hn hn1, ?_⟩; intro w4 e4; have z4 := cutLe e4)
      | ((with_reducible refine callF (g := 45) ?_ ?_); kernel_rfl; refine ⟨_, within_c _ _ _ _, ?_⟩; intro w4 e4; have z4 := cutLe e4)
      | ((with_reducible refine OBL.mk ?_ (fun _ => ?_)) <;> (exfalso; exact hg ⟨by simp_all, by omega, by simp_all⟩))
      | ((with_reducible refine BIF.dec ?_ ?_) <;> intro _)
      | ((with_reducible refine BIF.s ?_ ?_) <;> intro _)
      | (with_reducible refine NEXTK.normal ?_)
      | (with_reducible refine NEXTK.ret ?_)
      | (with_reducible refine NEXTK.exit ?_)
      | (with_reducible refine SEQ.plain ?_)
      | (with_reducible refine hK _ _ ?_)
      | ((with_reducible refine RUNL.agg (fun _ => ?_) ?_); (focus kernel_rfl))
      | (with_reducible refine RUNL.run ?_)
      | ((with_reducible refine AR.ok ?_ ?_); exact ⟨by first | omega | (dsimp only; omega), by first | omega | (dsimp only; omega)⟩)
      | (with_reducible refine AR.wr ?_)
      | ((with_reducible intro w3 e3); try have z3 := cutLe e3)
      | ((with_reducible intro h3); have h4 := Nat.le_of_lt h3; clear h4)))
    all_goals
      intro hx'
      rw [workP_bad hg]
      exact ⟨_, rfl, hx', _, rfl, Own.nil _ _ _ _⟩
theorem WorkPlanS_c (a : Option Addr) (n c : Nat) (xs : List Dmg) (s i : Int) (w : World) (hr : Row w a 4 (xs.map encDmg)) (hn : xs.length = n) (hn1 : n ≤ 4611686018427387904) :
    Calls Try.prog 9 #[.slice a n c, .int .i64 s, .int .i64 i] w fun e w' => ∃ r, e = .returned r ∧ E0 w w' ∧ ∃ v, r = .tuple #[v, .int .i64 (workP xs s i).2.1, .bool (workP xs s i).2.2] ∧ Own w' w.heap.size 3 1 v ((workP xs s i).1.map encI) := by
  refine enterK Non 39 Try.func9 rfl rfl rfl fun K hK => ?_
  by_cases hg : areD xs = true ∧ 0 ≤ dAt xs s ∧ inB i 0 4 = true
  · obtain ⟨g1, g2, g3⟩ := hg
    rcases dAt_spec xs s with hi | ⟨k, x, hi, hk, hx, hxs⟩
    · omega
    have his := hr.isSome (by simp; omega)
    have hxo := areD_at g1 hx
    have hib := inB_iff.1 g3
    repeat (any_goals (
      conv => whnf
      first
      | ((with_reducible refine callF (g := 39) ?_ ?_); kernel_rfl; refine ⟨_, l22Find_c _ _ _ xs _ _ (by repeat (first | assumption | refine Row.e0 ?_ (by assumption))) hn hn1, ?_⟩; intro w4 e4; have z4 := cutLe e4)
      | ((with_reducible refine callF (g := 40) ?_ ?_); kernel_rfl; refine ⟨_, l22Damages_c _ _ _ xs _ (by repeat (first | assumption | refine Row.e0 ?_ (by assumption))) hn hn1, ?_⟩; intro w4 e4; have z4 := cutLe e4)
      | ((with_reducible refine callF (g := 41) ?_ ?_); kernel_rfl; refine ⟨_, l1In_c _ _ _ _, ?_⟩; intro w4 e4; have z4 := cutLe e4)
      | ((with_reducible refine BIF.s (fun h => absurd h ?_) (fun _ => ?_)); focus (simp [g1]; done))
      | ((with_reducible refine BIF.s (fun _ => ?_) (fun h => absurd h ?_)); rotate_left; focus (simp [g1]; done))
      | ((with_reducible refine BIF.s (fun h => absurd h ?_) (fun _ => ?_)); focus (simp [g3]; done))
      | ((with_reducible refine BIF.s (fun _ => ?_) (fun h => absurd h ?_)); rotate_left; focus (simp [g3]; done))
      | ((exfalso; omega))
      | ((with_reducible refine OBL.mk ?_ (fun _ => ?_)); exact ⟨by omega, by omega, his⟩)
      | ((with_reducible refine ELD.at k hr ?_ ?_ hk (fun x' hx' => ?_)); exact mAddr_Non _; omega; obtain rfl : x = x' := by (rw [hx] at hx'; exact Option.some.inj hx'))
      | ((with_reducible refine callS (g := 42) ?_ ?_); kernel_rfl; refine ⟨_, l22Plan_c i.toNat (by omega) i (by omega) x false _ hxo, ?_⟩; intro r5 w5 e5 h5; have z6 := cutLe e5; obtain ⟨s5, rfl, o5⟩ := h5; obtain ⟨b5, d5, rfl, q5, p5⟩ := o5.rowx)
      | ((with_reducible refine BIF.dec ?_ ?_) <;> intro _)
      | ((with_reducible refine BIF.s ?_ ?_) <;> intro _)
      | (with_reducible refine NEXTK.normal ?_)
      | (with_reducible refine NEXTK.ret ?_)
      | (with_reducible refine NEXTK.exit ?_)
      | (with_reducible refine SEQ.plain ?_)
      | (with_reducible refine hK _ _ ?_)
      | ((with_reducible refine RUNL.agg (fun _ => ?_) ?_); (focus kernel_rfl))
      | (with_reducible refine RUNL.run ?_)
      | ((with_reducible refine AR.ok ?_ ?_); exact ⟨by first | omega | (dsimp only; omega), by first | omega | (dsimp only; omega)⟩)
      | (with_reducible refine AR.wr ?_)
      | ((with_reducible intro w3 e3); try have z3 := cutLe e3)
      | ((with_reducible intro h3); have h4 := Nat.le_of_lt h3; clear h4)))
    intro hx'
    rw [workP_good g1 hi hx g3]
    exact ⟨_, rfl, hx', _, rfl, o5.lo (by omega)⟩
  · repeat (any_goals (
      conv => whnf
      first
      | ((with_reducible refine callF (g := 39) ?_ ?_); kernel_rfl; refine ⟨_, l22Find_c _ _ _ xs _ _ (by repeat (first | assumption | refine Row.e0 ?_ (by assumption))) hn hn1, ?_⟩; intro w4 e4; have z4 := cutLe e4)
      | ((with_reducible refine callF (g := 40) ?_ ?_); kernel_rfl; refine ⟨_, l22Damages_c _ _ _ xs _ (by repeat (first | assumption | refine Row.e0 ?_ (by assumption))) hn hn1, ?_⟩; intro w4 e4; have z4 := cutLe e4)
      | ((with_reducible refine callF (g := 41) ?_ ?_); kernel_rfl; refine ⟨_, l1In_c _ _ _ _, ?_⟩; intro w4 e4; have z4 := cutLe e4)
      | ((with_reducible refine OBL.mk ?_ (fun _ => ?_)) <;> (exfalso; exact hg ⟨by simp_all, by omega, by simp_all⟩))
      | ((with_reducible refine bsS elemI [] rfl rfl (by simp) (by omega) (fun w9 e9 o9 => ?_)); have z9 := cutLe e9)
      | ((with_reducible refine BIF.dec ?_ ?_) <;> intro _)
      | ((with_reducible refine BIF.s ?_ ?_) <;> intro _)
      | (with_reducible refine NEXTK.normal ?_)
      | (with_reducible refine NEXTK.ret ?_)
      | (with_reducible refine NEXTK.exit ?_)
      | (with_reducible refine SEQ.plain ?_)
      | (with_reducible refine hK _ _ ?_)
      | ((with_reducible refine RUNL.agg (fun _ => ?_) ?_); (focus kernel_rfl))
      | (with_reducible refine RUNL.run ?_)
      | ((with_reducible refine AR.ok ?_ ?_); exact ⟨by first | omega | (dsimp only; omega), by first | omega | (dsimp only; omega)⟩)
      | (with_reducible refine AR.wr ?_)
      | ((with_reducible intro w3 e3); try have z3 := cutLe e3)
      | ((with_reducible intro h3); have h4 := Nat.le_of_lt h3; clear h4)))
    all_goals
      intro hx'
      rw [workP_bad hg]
      exact ⟨_, rfl, hx', _, rfl, o9.lo (by omega)⟩

end Go.Proofs.Ytgopcppegjhmiaa

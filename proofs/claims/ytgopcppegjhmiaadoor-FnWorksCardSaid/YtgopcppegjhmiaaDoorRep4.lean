/- The damage of a sheet on a day, and the best work. -/
import Derived.Test.YtgopcppegjhmiaaDoorRows
import Derived.Test.YtgopcppegjhmiaaDoorRep3
namespace Go.Proofs.YtgopcppegjhmiaaDoor
open Go Go.X Go.Proofs Go.ChangeShapes Go.WideShapes Go.ChangeAt Go.RowKit
open Go.ChangeMaps (open_string shut_string)
set_option maxHeartbeats 1000000
set_option maxRecDepth 20000
set_option linter.unusedVariables false
set_option linter.unusedSimpArgs false
theorem dAt_spec (xs : List Dmg) (s : Int) : dAt xs s = -1 ∨ ∃ (k : Nat) (x : Dmg), dAt xs s = k ∧ k < xs.length ∧ xs[k]? = some x ∧ x.fSheet = s := by
  rcases idxP_spec (fun x : Dmg => decide (x.fSheet = s)) xs with ⟨h, -⟩ | ⟨k, x, g1, g2, g3, h4, -⟩
  · exact .inl h
  · exact .inr ⟨k, x, g1, g2, g3, by simpa using h4⟩
def zeroDm : Dmg := ⟨0, 0, 0, 0⟩
def dmgOnP (xs : List Dmg) (ys : List Rep) (s day : Int) : Dmg × Bool :=
  if areR xs ys && decide (0 ≤ dAt xs s) && inB day 0 4000 then (doneD (xs.getD (dAt xs s).toNat default) ys day, true) else (zeroDm, false)
theorem dmgOnP_bad {xs : List Dmg} {ys : List Rep} {s day : Int} (h : ¬ (areR xs ys = true ∧ 0 ≤ dAt xs s ∧ inB day 0 4000 = true)) : dmgOnP xs ys s day = (zeroDm, false) := by
  unfold dmgOnP
  rw [if_neg (by simpa [and_assoc] using h)]
theorem dmgOnP_good {xs : List Dmg} {ys : List Rep} {s day : Int} {k : Nat} {x : Dmg} (h : areR xs ys = true) (hk : dAt xs s = k) (hx : xs[k]? = some x) (hd : inB day 0 4000 = true) : dmgOnP xs ys s day = (doneD x ys day, true) := by
  unfold dmgOnP
  rw [if_pos (by simp [h, hk, hd])]
  simp [hk, hx]
theorem areR_works {xs : List Dmg} {ys : List Rep} (h : areR xs ys = true) : ∀ r ∈ ys, 1 ≤ r.fWork ∧ r.fWork ≤ 4 := by
  intro r hr
  obtain ⟨k, hk⟩ := List.getElem?_of_mem hr
  exact (areR_at h hk).2.1
theorem RUNL_zero {run : World → Result Next} {k : Value → Prop} (h : ∀ w, run w = .ok (.value (.agg #[.int .i64 0, .int .i64 0, .int .i64 0, .int .i64 0])) w) (hk : k (.agg #[.int .i64 0, .int .i64 0, .int .i64 0, .int .i64 0])) : RUNL [] run k := ⟨RUN.mk h hk⟩
theorem DamageOn_c (a b : Option Addr) (n c m d : Nat) (xs : List Dmg) (ys : List Rep) (s day : Int) (w : World) (hr : Row w a 4 (xs.map encDmg)) (hs : Row w b 3 (ys.map encRep)) (hn : xs.length = n) (hm : ys.length = m) (hn1 : n ≤ 4611686018427387904) (hm1 : m ≤ 4611686018427387904) (hc : m ≤ d ∧ d < 9223372036854775808) :
    Calls Tryd.prog 16 #[.slice a n c, .slice b m d, .int .i64 s, .int .i64 day] w fun e w' => e = .returned (.tuple #[.agg (encDmg (dmgOnP xs ys s day).1).toArray, .bool (dmgOnP xs ys s day).2]) ∧ E0 w w' := by
  refine enterK Non 35 Tryd.func16 rfl rfl rfl fun K hK => ?_
  by_cases hg : areR xs ys = true ∧ 0 ≤ dAt xs s ∧ inB day 0 4000 = true
  · obtain ⟨g1, g2, g3⟩ := hg
    rcases dAt_spec xs s with hi | ⟨k, x, hi, hk, hx, hxs⟩
    · omega
    have his := hr.isSome (by simp; omega)
    have hxo := areD_at (areR_spec g1).1 hx
    repeat (any_goals (
      conv => whnf
      first
      | ((with_reducible refine callF (g := 43) ?_ ?_); kernel_rfl; refine ⟨_, damageAt_c _ _ _ xs _ _ (by repeat (first | assumption | refine Row.e0 ?_ (by assumption))) hn hn1, ?_⟩; intro w4 e4; have z4 := cutLe e4)
      | ((with_reducible refine callF (g := 31) ?_ ?_); kernel_rfl; refine ⟨_, AreRepairs_c _ _ _ _ _ _ xs ys _ (by repeat (first | assumption | refine Row.e0 ?_ (by assumption))) (by repeat (first | assumption | refine Row.e0 ?_ (by assumption))) hn hm hn1 hm1 hc, ?_⟩; intro w4 e4; have z4 := cutLe e4)
      | ((with_reducible refine callF (g := 44) ?_ ?_); kernel_rfl; refine ⟨_, isDay_c _ _, ?_⟩; intro w4 e4; have z4 := cutLe e4)
      | ((with_reducible refine BIF.s (fun h => absurd h ?_) (fun _ => ?_)); focus (simp [g1]; done))
      | ((with_reducible refine BIF.s (fun _ => ?_) (fun h => absurd h ?_)); rotate_left; focus (simp [g1]; done))
      | ((with_reducible refine BIF.s (fun h => absurd h ?_) (fun _ => ?_)); focus (simp [g3]; done))
      | ((with_reducible refine BIF.s (fun _ => ?_) (fun h => absurd h ?_)); rotate_left; focus (simp [g3]; done))
      | ((exfalso; omega))
      | ((with_reducible refine OBL.mk ?_ (fun _ => ?_)); exact ⟨by omega, by omega, his⟩)
      | ((with_reducible refine ELD.at k hr ?_ ?_ hk (fun x' hx' => ?_)); exact mAddr_Non _; omega; obtain rfl : x = x' := by (rw [hx] at hx'; exact Option.some.inj hx'))
      | ((with_reducible refine callF (g := 35) ?_ ?_); kernel_rfl; refine ⟨_, repaired_c _ _ _ x ys _ _ (by repeat (first | assumption | refine Row.e0 ?_ (by assumption))) hm hm1 hxo, ?_⟩; intro w4 e4; have z4 := cutLe e4)
      | ((with_reducible refine BIF.dec ?_ ?_) <;> intro _)
      | ((with_reducible refine BIF.s ?_ ?_) <;> intro _)
      | (with_reducible refine NEXTK.normal ?_)
      | (with_reducible refine NEXTK.ret ?_)
      | (with_reducible refine NEXTK.exit ?_)
      | (with_reducible refine SEQ.plain ?_)
      | (with_reducible refine hK _ _ ?_)
      | ((with_reducible refine RUNL.agg (fun _ => ?_) ?_); (focus kernel_rfl))
      | (with_reducible refine RUNL.run ?_)
      | ((with_reducible refine AR.ok ?_ ?_); exact ⟨by first | omega | (dsimp only; omega), by first | omega | (dsimp only; omega)⟩)
      | (with_reducible refine AR.wr ?_)
      | ((with_reducible intro w3 e3); try have z3 := cutLe e3)
      | ((with_reducible intro h3); have h4 := Nat.le_of_lt h3; clear h4)))
    intro hx'
    refine ⟨?_, hx'⟩
    rw [dmgOnP_good g1 hi hx g3]; rfl
  · repeat (any_goals (
      conv => whnf
      first
      | ((with_reducible refine callF (g := 43) ?_ ?_); kernel_rfl; refine ⟨_, damageAt_c _ _ _ xs _ _ (by repeat (first | assumption | refine Row.e0 ?_ (by assumption))) hn hn1, ?_⟩; intro w4 e4; have z4 := cutLe e4)
      | ((with_reducible refine callF (g := 31) ?_ ?_); kernel_rfl; refine ⟨_, AreRepairs_c _ _ _ _ _ _ xs ys _ (by repeat (first | assumption | refine Row.e0 ?_ (by assumption))) (by repeat (first | assumption | refine Row.e0 ?_ (by assumption))) hn hm hn1 hm1 hc, ?_⟩; intro w4 e4; have z4 := cutLe e4)
      | ((with_reducible refine callF (g := 44) ?_ ?_); kernel_rfl; refine ⟨_, isDay_c _ _, ?_⟩; intro w4 e4; have z4 := cutLe e4)
      | ((with_reducible refine RUNL_zero (fun _ => ?_) ?_); (focus kernel_rfl))
      | ((with_reducible refine OBL.mk ?_ (fun _ => ?_)) <;> (exfalso; exact hg ⟨by simp_all, by omega, by simp_all⟩))
      | ((with_reducible refine BIF.dec ?_ ?_) <;> intro _)
      | ((with_reducible refine BIF.s ?_ ?_) <;> intro _)
      | (with_reducible refine NEXTK.normal ?_)
      | (with_reducible refine NEXTK.ret ?_)
      | (with_reducible refine NEXTK.exit ?_)
      | (with_reducible refine SEQ.plain ?_)
      | (with_reducible refine hK _ _ ?_)
      | ((with_reducible refine RUNL.agg (fun _ => ?_) ?_); (focus kernel_rfl))
      | (with_reducible refine RUNL.run ?_)
      | ((with_reducible refine AR.ok ?_ ?_); exact ⟨by first | omega | (dsimp only; omega), by first | omega | (dsimp only; omega)⟩)
      | (with_reducible refine AR.wr ?_)
      | ((with_reducible intro w3 e3); try have z3 := cutLe e3)
      | ((with_reducible intro h3); have h4 := Nat.le_of_lt h3; clear h4)))
    all_goals
      intro hx'
      refine ⟨?_, hx'⟩
      rw [dmgOnP_bad hg]; rfl
def bwStep (x : Dmg) (lined : Bool) (g : Int × Int) (k : Int) : Int × Int :=
  if 3 ≤ k ∧ lined = true then g else if g.1 = 0 ∨ gradeD (after x k) < g.2 then (k, gradeD (after x k)) else g
def bwAt (x : Dmg) (lined : Bool) : Nat → Int × Int
  | 0 => (0, 0)
  | k + 1 => bwStep x lined (bwAt x lined k) (k + 1)
def bestP (xs : List Dmg) (ys : List Rep) (s : Int) : (Int × Int) × Bool :=
  if areR xs ys && decide (0 ≤ dAt xs s) then (bwAt (doneD (xs.getD (dAt xs s).toNat default) ys 4000) (linedP ys s) 4, true) else ((0, 0), false)
theorem bestP_bad {xs : List Dmg} {ys : List Rep} {s : Int} (h : ¬ (areR xs ys = true ∧ 0 ≤ dAt xs s)) : bestP xs ys s = ((0, 0), false) := by
  unfold bestP
  rw [if_neg (by simpa [and_assoc] using h)]
theorem bestP_good {xs : List Dmg} {ys : List Rep} {s : Int} {k : Nat} {x : Dmg} (h : areR xs ys = true) (hk : dAt xs s = k) (hx : xs[k]? = some x) : bestP xs ys s = (bwAt (doneD x ys 4000) (linedP ys s) 4, true) := by
  unfold bestP
  rw [if_pos (by simp [h, hk])]
  simp [hk, hx]

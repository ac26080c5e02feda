/- The damage of a sheet on a day, and the best work. -/
import Derived.Test.YtgopcppegjhmiaaRows
import Derived.Test.YtgopcppegjhmiaaRep3
namespace Go.Proofs.Ytgopcppegjhmiaa
open Go Go.X Go.Proofs Go.ChangeShapes Go.WideShapes Go.ChangeAt Go.RowKit
open Go.ChangeMaps (open_string shut_string)
set_option maxHeartbeats 1000000
set_option maxRecDepth 20000
set_option linter.unusedVariables false
set_option linter.unusedSimpArgs false
theorem dAt_spec (xs : List Dmg) (s : Int) : dAt xs s = -1 ∨ ∃ (k : Nat) (x : Dmg), dAt xs s = k ∧ k < xs.length ∧ xs[k]? = some x ∧ x.fSheet = s := by
  rcases idxP_spec (fun x : Dmg => decide (x.fSheet = s)) xs with ⟨h, -⟩ | ⟨k, x, g1, g2, g3, h4, -⟩
  · exact .inl h
  · exact .inr ⟨k, x, g1, g2, g3, by simpa using h4⟩
def zeroDm : Dmg := ⟨0, 0, 0, 0⟩
def dmgOnP (xs : List Dmg) (ys : List Rep) (s day : Int) : Dmg × Bool :=
  if areR xs ys && decide (0 ≤ dAt xs s) && inB day 0 4000 then (doneD (xs.getD (dAt xs s).toNat default) ys day, true) else (zeroDm, false)
theorem dmgOnP_bad {xs : List Dmg} {ys : List Rep} {s day : Int} (h : ¬ (areR xs ys = true ∧ 0 ≤ dAt xs s ∧ inB day 0 4000 = true)) : dmgOnP xs ys s day = (zeroDm, false) := by
  unfold dmgOnP
  rw [if_neg (by simpa [and_assoc] using h)]
theorem dmgOnP_good {xs : List Dmg} {ys : List Rep} {s day : Int} {k : Nat} {x : Dmg} (h : areR xs ys = true) (hk : dAt xs s = k) (hx : xs[k]? = some x) (hd : inB day 0 4000 = true) : dmgOnP xs ys s day = (doneD x ys day, true) := by
  unfold dmgOnP
  rw [if_pos (by simp [h, hk, hd])]
  simp [hk, hx]
theorem areR_works {xs : List Dmg} {ys : List Rep} (h : areR xs ys = true) : ∀ r ∈ ys, 1 ≤ r.fWork ∧ r.fWork ≤ 4 := by
  intro r hr
  obtain ⟨k, hk⟩ := List.getElem?_of_mem hr
  exact (areR_at h hk).2.1
theorem RUNL_zero {run : World → Result Next} {k : Value → Prop} (h : ∀ w, run w = .ok (.value (.agg #[.int .i64 0, .int .i64 0, .int .i64 0, .int .i64 0])) w) (hk : k (.agg #[.int .i64 0, .int .i64 0, .int .i64 0, .int .i64 0])) : RUNL [] run k := ⟨RUN.mk h hk⟩
theorem DamageOn_c (a b : Option Addr) (n c m d : Nat) (xs : List Dmg) (ys : List Rep) (s day : Int) (w : World) (hr : Row w a 4 (xs.map encDmg)) (hs : Row w b 3 (ys.map encRep)) (hn : xs.length = n) (hm : ys.length = m) (hn1 : n ≤ 4611686018427387904) (hm1 : m ≤ 4611686018427387904) (hc : m ≤ d ∧ d < 9223372036854775808) :
    Calls Try.prog 20 #[.slice a n c, .slice b m d, .int .i64 s, .int .i64 day] w fun e w' => e = .returned (.tuple #[.agg (encDmg (dmgOnP xs ys s day).1).toArray, .bool (dmgOnP xs ys s day).2]) ∧ E0 w w' := by
  refine enterK Non 35 Try.func20 rfl rfl rfl fun K hK => ?_
  by_cases hg : areR xs ys = true ∧ 0 ≤ dAt xs s ∧ inB day 0 4000 = true
  · obtain ⟨g1, g2, g3⟩ := hg
    rcases dAt_spec xs s with hi | ⟨k, x, hi, hk, hx, hxs⟩
    · omega
    have his := hr.isSome (by simp; omega)
    have hxo := areD_at (areR_spec g1).1 hx
    repeat (any_goals (
      conv => whnf
      first
      | ((with_reducible refine callF (g := 44) ?_ ?_); kernel_rfl; refine ⟨_, damageAt_c _ _ _ xs _ _ (by repeat (first | assumption | refine Row.e0 ?_ (by assumption))) hn hn1, ?_⟩; intro w4 e4; have z4 := cutLe e4)
      | ((with_reducible refine callF (g := 37) ?_ ?_); kernel_rfl; refine ⟨_, AreRepairs_c _ _ _ _ _ _ xs ys _ (by repeat (first | assumption | refine Row.e0 ?_ (by assumption))) (by repeat (first | assumption | refine Row.e0 ?_ (by assumption))) hn hm hn1 hm1 hc, ?_⟩; intro w4 e4; have z4 := cutLe e4)
      | ((with_reducible refine callF (g := 51) ?_ ?_); kernel_rfl; refine ⟨_, isDay_c _ _, ?_⟩; intro w4 e4; have z4 := cutLe e4)
      | ((with_reducible refine BIF.s (fun h => absurd h ?_) (fun _ => ?_)); focus (simp [g1]; done))
      | ((with_reducible refine BIF.s (fun _ => ?_) (fun h => absurd h ?_)); rotate_left; focus (simp [g1]; done))
      | ((with_reducible refine BIF.s (fun h => absurd h ?_) (fun _ => ?_)); focus (simp [g3]; done))
      | ((with_reducible refine BIF.s (fun _ => ?_) (fun h => absurd h ?_)); rotate_left; focus (simp [g3]; done))
      | ((exfalso; omega))
      | ((with_reducible refine OBL.mk ?_ (fun _ => ?_)); exact ⟨by omega, by omega, his⟩)
      | ((with_reducible refine ELD.at k hr ?_ ?_ hk (fun x' hx' => ?_)); exact mAddr_Non _; omega; obtain rfl : x = x' := by (rw [hx] at hx'; exact Option.some.inj hx'))
      | ((with_reducible refine callF (g := 52) ?_ ?_); kernel_rfl; refine ⟨_, repaired_c _ _ _ x ys _ _ (by repeat (first | assumption | refine Row.e0 ?_ (by assumption))) hm hm1 hxo, ?_⟩; intro w4 e4; have z4 := cutLe e4)
      | ((with_reducible refine BIF.dec ?_ ?_) <;> intro _)
      | ((with_reducible refine BIF.s ?_ ?_) <;> intro _)
      | (with_reducible refine NEXTK.normal ?_)
      | (with_reducible refine NEXTK.ret ?_)
      | (with_reducible refine NEXTK.exit ?_)
      | (with_reducible refine SEQ.plain ?_)
      | (with_reducible refine hK _ _ ?_)
      | ((with_reducible refine RUNL.agg (fun _ => ?_) ?_); (focus kernel_rfl))
      | (with_reducible refine RUNL.run ?_)
      | ((with_reducible refine AR.ok ?_ ?_); exact ⟨by first | omega | (dsimp only; omega), by first | omega | (dsimp only; omega)⟩)
      | (with_reducible refine AR.wr ?_)
      | ((with_reducible intro w3 e3); try have z3 := cutLe e3)
      | ((with_reducible intro h3); have h4 := Nat.le_of_lt h3; clear h4)))
    intro hx'
    refine ⟨?_, hx'⟩
    rw [dmgOnP_good g1 hi hx g3]; rfl
  · repeat (any_goals (
      conv => whnf
      first
      | ((with_reducible refine callF (g := 44) ?_ ?_); kernel_rfl; refine ⟨_, damageAt_c _ _ _ xs _ _ (by repeat (first | assumption | refine Row.e0 ?_ (by assumption))) hn hn1, ?_⟩; intro w4 e4; have z4 := cutLe e4)
      | ((with_reducible refine callF (g := 37) ?_ ?_); kernel_rfl; refine ⟨_, AreRepairs_c _ _ _ _ _ _ xs ys _ (by repeat (first | assumption | refine Row.e0 ?_ (by assumption))) (by repeat (first | assumption | refine Row.e0 ?_ (by assumption))) hn hm hn1 hm1 hc, ?_⟩; intro w4 e4; have z4 := cutLe e4)
      | ((with_reducible refine callF (g := 51) ?_ ?_); kernel_rfl; refine ⟨_, isDay_c _ _, ?_⟩; intro w4 e4; have z4 := cutLe e4)
      | ((with_reducible refine RUNL_zero (fun _ => ?_) ?_); (focus kernel_rfl))
      | ((with_reducible refine OBL.mk ?_ (fun _ => ?_)) <;> (exfalso; exact hg ⟨by simp_all, by omega, by simp_all⟩))
      | ((with_reducible refine BIF.dec ?_ ?_) <;> intro _)
      | ((with_reducible refine BIF.s ?_ ?_) <;> intro _)
      | (with_reducible refine NEXTK.normal ?_)
      | (with_reducible refine NEXTK.ret ?_)
      | (with_reducible refine NEXTK.exit ?_)
      | (with_reducible refine SEQ.plain ?_)
      | (with_reducible refine hK _ _ ?_)
      | ((with_reducible refine RUNL.agg (fun _ => ?_) ?_); (focus kernel_rfl))
      | (with_reducible refine RUNL.run ?_)
      | ((with_reducible refine AR.ok ?_ ?_); exact ⟨by first | omega | (dsimp only; omega), by first | omega | (dsimp only; omega)⟩)
      | (with_reducible refine AR.wr ?_)
      | ((with_reducible intro w3 e3); try have z3 := cutLe e3)
      | ((with_reducible intro h3); have h4 := Nat.le_of_lt h3; clear h4)))
    all_goals
      intro hx'
      refine ⟨?_, hx'⟩
      rw [dmgOnP_bad hg]; rfl
theorem DamageOnS_c (a b : Option Addr) (n c m d : Nat) (xs : List Dmg) (ys : List Rep) (s day : Int) (w : World) (hr : Row w a 4 (xs.map encDmg)) (hs : Row w b 3 (ys.map encRep)) (hn : xs.length = n) (hm : ys.length = m) (hn1 : n ≤ 4611686018427387904) (hm1 : m ≤ 4611686018427387904) (hc : m ≤ d ∧ d < 9223372036854775808) :
    Calls Try.prog 18 #[.slice a n c, .slice b m d, .int .i64 s, .int .i64 day] w fun e w' => e = .returned (.tuple #[.agg (encDmg (dmgOnP xs ys s day).1).toArray, .bool (dmgOnP xs ys s day).2]) ∧ E0 w w' := by
  refine enterK Non 35 Try.func18 rfl rfl rfl fun K hK => ?_
  by_cases hg : areR xs ys = true ∧ 0 ≤ dAt xs s ∧ inB day 0 4000 = true
  · obtain ⟨g1, g2, g3⟩ := hg
    rcases dAt_spec xs s with hi | ⟨k, x, hi, hk, hx, hxs⟩
    · omega
    have his := hr.isSome (by simp; omega)
    have hxo := areD_at (areR_spec g1).1 hx
    repeat (any_goals (
      conv => whnf
      first
      | ((with_reducible refine callF (g := 39) ?_ ?_); kernel_rfl; refine ⟨_, l22Find_c _ _ _ xs _ _ (by repeat (first | assumption | refine Row.e0 ?_ (by assumption))) hn hn1, ?_⟩; intro w4 e4; have z4 := cutLe e4)
      | ((with_reducible refine callF (g := 47) ?_ ?_); kernel_rfl; refine ⟨_, l22Good_c _ _ _ _ _ _ xs ys _ (by repeat (first | assumption | refine Row.e0 ?_ (by assumption))) (by repeat (first | assumption | refine Row.e0 ?_ (by assumption))) hn hm hn1 hm1 hc, ?_⟩; intro w4 e4; have z4 := cutLe e4)
      | ((with_reducible refine callF (g := 48) ?_ ?_); kernel_rfl; refine ⟨_, l2Day_c _ _, ?_⟩; intro w4 e4; have z4 := cutLe e4)
      | ((with_reducible refine BIF.s (fun h => absurd h ?_) (fun _ => ?_)); focus (simp [g1]; done))
      | ((with_reducible refine BIF.s (fun _ => ?_) (fun h => absurd h ?_)); rotate_left; focus (simp [g1]; done))
      | ((with_reducible refine BIF.s (fun h => absurd h ?_) (fun _ => ?_)); focus (simp [g3]; done))
      | ((with_reducible refine BIF.s (fun _ => ?_) (fun h => absurd h ?_)); rotate_left; focus (simp [g3]; done))
      | ((exfalso; omega))
      | ((with_reducible refine OBL.mk ?_ (fun _ => ?_)); exact ⟨by omega, by omega, his⟩)
      | ((with_reducible refine ELD.at k hr ?_ ?_ hk (fun x' hx' => ?_)); exact mAddr_Non _; omega; obtain rfl : x = x' := by (rw [hx] at hx'; exact Option.some.inj hx'))
      | ((with_reducible refine callF (g := 49) ?_ ?_); kernel_rfl; refine ⟨_, l22On_c _ _ _ x ys _ _ (by repeat (first | assumption | refine Row.e0 ?_ (by assumption))) hm hm1 hxo (areR_works g1), ?_⟩; intro w4 e4; have z4 := cutLe e4)
      | ((with_reducible refine BIF.dec ?_ ?_) <;> intro _)
      | ((with_reducible refine BIF.s ?_ ?_) <;> intro _)
      | (with_reducible refine NEXTK.normal ?_)
      | (with_reducible refine NEXTK.ret ?_)
      | (with_reducible refine NEXTK.exit ?_)
      | (with_reducible refine SEQ.plain ?_)
      | (with_reducible refine hK _ _ ?_)
      | ((with_reducible refine RUNL.agg (fun _ => ?_) ?_); (focus kernel_rfl))
      | (with_reducible refine RUNL.run ?_)
      | ((with_reducible refine AR.ok ?_ ?_); exact ⟨by first | omega | (dsimp only; omega), by first | omega | (dsimp only; omega)⟩)
      | (with_reducible refine AR.wr ?_)
      | ((with_reducible intro w3 e3); try have z3 := cutLe e3)
      | ((with_reducible intro h3); have h4 := Nat.le_of_lt h3; clear h4)))
    intro hx'
    refine ⟨?_, hx'⟩
    rw [dmgOnP_good g1 hi hx g3]; rfl
  · repeat (any_goals (
      conv => whnf
      first
      | ((with_reducible refine callF (g := 39) ?_ ?_); kernel_rfl; refine ⟨_, l22Find_c _ _ _ xs _ _ (by repeat (first | assumption | refine Row.e0 ?_ (by assumption))) hn hn1, ?_⟩; intro w4 e4; have z4 := cutLe e4)
      | ((with_reducible refine callF (g := 47) ?_ ?_); kernel_rfl; refine ⟨_, l22Good_c _ _ _ _ _ _ xs ys _ (by repeat (first | assumption | refine Row.e0 ?_ (by assumption))) (by repeat (first | assumption | refine Row.e0 ?_ (by assumption))) hn hm hn1 hm1 hc, ?_⟩; intro w4 e4; have z4 := cutLe e4)
      | ((with_reducible refine callF (g := 48) ?_ ?_); kernel_rfl; refine ⟨_, l2Day_c _ _, ?_⟩; intro w4 e4; have z4 := cutLe e4)
      | ((with_reducible refine RUNL_zero (fun _ => ?_) ?_); (focus kernel_rfl))
      | ((with_reducible refine OBL.mk ?_ (fun _ => ?_)) <;> (exfalso; exact hg ⟨by simp_all, by omega, by simp_all⟩))
      | ((with_reducible refine BIF.dec ?_ ?_) <;> intro _)
      | ((with_reducible refine BIF.s ?_ ?_) <;> intro _)
      | (with_reducible refine NEXTK.normal ?_)
      | (with_reducible refine NEXTK.ret ?_)
      | (with_reducible refine NEXTK.exit ?_)
      | (with_reducible refine SEQ.plain ?_)
      | (with_reducible refine hK _ _ ?_)
      | ((with_reducible refine RUNL.agg (fun _ => ?_) ?_); (focus kernel_rfl))
      | (with_reducible refine RUNL.run ?_)
      | ((with_reducible refine AR.ok ?_ ?_); exact ⟨by first | omega | (dsimp only; omega), by first | omega | (dsimp only; omega)⟩)
      | (with_reducible refine AR.wr ?_)
      | ((with_reducible intro w3 e3); try have z3 := cutLe e3)
      | ((with_reducible intro h3); have h4 := Nat.le_of_lt h3; clear h4)))
    all_goals
      intro hx'
      refine ⟨?_, hx'⟩
      rw [dmgOnP_bad hg]; rfl
def bwStep (x : Dmg) (lined : Bool) (g : Int × Int) (k : Int) : Int × Int :=
  if 3 ≤ k ∧ lined = true then g else if g.1 = 0 ∨ gradeD (after x k) < g.2 then (k, gradeD (after x k)) else g
def bwAt (x : Dmg) (lined : Bool) : Nat → Int × Int
  | 0 => (0, 0)
  | k + 1 => bwStep x lined (bwAt x lined k) (k + 1)
def bestP (xs : List Dmg) (ys : List Rep) (s : Int) : (Int × Int) × Bool :=
  if areR xs ys && decide (0 ≤ dAt xs s) then (bwAt (doneD (xs.getD (dAt xs s).toNat default) ys 4000) (linedP ys s) 4, true) else ((0, 0), false)
theorem bestP_bad {xs : List Dmg} {ys : List Rep} {s : Int} (h : ¬ (areR xs ys = true ∧ 0 ≤ dAt xs s)) : bestP xs ys s = ((0, 0), false) := by
  unfold bestP
  rw [if_neg (by simpa [and_assoc] using h)]
theorem bestP_good {xs : List Dmg} {ys : List Rep} {s : Int} {k : Nat} {x : Dmg} (h : areR xs ys = true) (hk : dAt xs s = k) (hx : xs[k]? = some x) : bestP xs ys s = (bwAt (doneD x ys 4000) (linedP ys s) 4, true) := by
  unfold bestP
  rw [if_pos (by simp [h, hk])]
  simp [hk, hx]
theorem BestWork_c (a b : Option Addr) (n c m d : Nat) (xs : List Dmg) (ys : List Rep) (s : Int) (w : World) (hr : Row w a 4 (xs.map encDmg)) (hs : Row w b 3 (ys.map encRep)) (hn : xs.length = n) (hm : ys.length = m) (hn1 : n ≤ 4611686018427387904) (hm1 : m ≤ 4611686018427387904) (hc : m ≤ d ∧ d < 9223372036854775808) :
    Calls Try.prog 24 #[.slice a n c, .slice b m d, .int .i64 s] w fun e w' => e = .returned (.tuple #[.int .i64 (bestP xs ys s).1.1, .int .i64 (bestP xs ys s).1.2, .bool (bestP xs ys s).2]) ∧ E0 w w' := by
  refine enterK Non 58 Try.func24 rfl rfl rfl fun K hK => ?_
  by_cases hg : areR xs ys = true ∧ 0 ≤ dAt xs s
  · obtain ⟨g1, g2⟩ := hg
    rcases dAt_spec xs s with hi | ⟨k, x, hi, hk, hx, hxs⟩
    · omega
    have his := hr.isSome (by simp; omega)
    have hxo := areD_at (areR_spec g1).1 hx
    have hzo := doneD_ok hxo ys 4000
    repeat (any_goals (
      conv => whnf
      first
      | ((with_reducible refine callF (g := 44) ?_ ?_); kernel_rfl; refine ⟨_, damageAt_c _ _ _ xs _ _ (by repeat (first | assumption | refine Row.e0 ?_ (by assumption))) hn hn1, ?_⟩; intro w4 e4; have z4 := cutLe e4)
      | ((with_reducible refine callF (g := 37) ?_ ?_); kernel_rfl; refine ⟨_, AreRepairs_c _ _ _ _ _ _ xs ys _ (by repeat (first | assumption | refine Row.e0 ?_ (by assumption))) (by repeat (first | assumption | refine Row.e0 ?_ (by assumption))) hn hm hn1 hm1 hc, ?_⟩; intro w4 e4; have z4 := cutLe e4)
      | ((with_reducible refine BIF.s (fun h => absurd h ?_) (fun _ => ?_)); focus (simp [g1]; done))
      | ((with_reducible refine BIF.s (fun _ => ?_) (fun h => absurd h ?_)); rotate_left; focus (simp [g1]; done))
      | ((exfalso; omega))
      | ((with_reducible refine OBL.mk ?_ (fun _ => ?_)); exact ⟨by omega, by omega, his⟩)
      | ((with_reducible refine ELD.at k hr ?_ ?_ hk (fun x' hx' => ?_)); exact mAddr_Non _; omega; obtain rfl : x = x' := by (rw [hx] at hx'; exact Option.some.inj hx'))
      | ((with_reducible refine callF (g := 52) ?_ ?_); kernel_rfl; refine ⟨_, repaired_c _ _ _ x ys _ _ (by repeat (first | assumption | refine Row.e0 ?_ (by assumption))) hm hm1 hxo, ?_⟩; intro w4 e4; have z4 := cutLe e4)
      | ((with_reducible refine BIF.dec ?_ ?_) <;> intro _)
      | ((with_reducible refine BIF.s ?_ ?_) <;> intro _)
      | (with_reducible refine NEXTK.normal ?_)
      | (with_reducible refine NEXTK.ret ?_)
      | (with_reducible refine NEXTK.exit ?_)
      | (with_reducible refine SEQ.plain ?_)
      | (with_reducible refine hK _ _ ?_)
      | ((with_reducible refine RUNL.agg (fun _ => ?_) ?_); (focus kernel_rfl))
      | (with_reducible refine RUNL.run ?_)
      | ((with_reducible refine AR.ok ?_ ?_); exact ⟨by first | omega | (dsimp only; omega), by first | omega | (dsimp only; omega)⟩)
      | (with_reducible refine AR.wr ?_)
      | ((with_reducible intro w3 e3); try have z3 := cutLe e3)
      | ((with_reducible intro h3); have h4 := Nat.le_of_lt h3; clear h4)))
    conv => whnf
    refine LOOP.mk (Nat × Int × Int) (fun t => [(13, .v (.int .i64 ((t.1 : Int) + 1))), (11, .v (.int .i64 t.2.1)), (12, .v (.int .i64 t.2.2))]) (fun t _ => t.1 ≤ 4 ∧ t.2 = bwAt (doneD x ys 4000) (linedP ys s) t.1) (fun t => 4 - t.1) (0, 0, 0) rfl ⟨rfl, rfl, rfl, trivial⟩ ⟨Nat.zero_le _, rfl⟩ ?_
    rintro ⟨j, p, q⟩ wr ew ⟨hj, hpq⟩
    simp only at hj hpq
    conv => whnf
    repeat (first | ((with_reducible refine NEXTK.normal ?_); conv => whnf) | ((with_reducible refine NEXTK.exit ?_); conv => whnf) | ((with_reducible refine NEXTK.ret ?_); conv => whnf) | ((with_reducible refine SEQ.plain ?_); conv => whnf) | ((with_reducible refine AR.ok ?_ ?_); exact ⟨by omega, by omega⟩; conv => whnf))
    refine BIF.dec (fun hlt => ?_) (fun hlt => ?_)
    · have hj4 : j < 4 := by simp only at hlt; omega
      have hst : bwAt (doneD x ys 4000) (linedP ys s) (j + 1) = bwStep (doneD x ys 4000) (linedP ys s) (p, q) (j + 1) := by rw [bwAt, ← hpq]
      repeat (any_goals (
        conv => whnf
        first
        | ((with_reducible refine callX (g := 57) ?_ ?_); kernel_rfl; intro hX; refine ⟨_, isLined_c _ _ _ ys _ _ (hs.e0 hX) hm hm1, ?_⟩; intro w4 e4; have z4 := cutLe e4; clear hX)
        | ((with_reducible refine callF (g := 58) ?_ ?_); kernel_rfl; refine ⟨_, after_c _ _ _ hzo, ?_⟩; intro w4 e4; have z4 := cutLe e4)
        | ((with_reducible refine callF (g := 59) ?_ ?_); kernel_rfl; refine ⟨_, grade_c _ _ (after_ok hzo _), ?_⟩; intro w4 e4; have z4 := cutLe e4)
        | ((with_reducible refine BIF.dec ?_ ?_) <;> intro _)
        | ((with_reducible refine BIF.s ?_ ?_) <;> intro _)
        | (with_reducible refine NEXTK.normal ?_)
        | (with_reducible refine NEXTK.ret ?_)
        | (with_reducible refine NEXTK.exit ?_)
        | (with_reducible refine SEQ.plain ?_)
        | (with_reducible refine hK _ _ ?_)
        | ((with_reducible refine RUNL.agg (fun _ => ?_) ?_); (focus kernel_rfl))
        | (with_reducible refine RUNL.run ?_)
        | ((with_reducible refine AR.ok ?_ ?_); exact ⟨by first | omega | (dsimp only; omega), by first | omega | (dsimp only; omega)⟩)
        | (with_reducible refine AR.wr ?_)
        | ((with_reducible intro w3 e3); try have z3 := cutLe e3)
        | ((with_reducible intro h3); have h4 := Nat.le_of_lt h3; clear h4)))
      all_goals first
        | (refine ⟨(j + 1, p, q), rfl, ⟨by simp [lk, Nat.beq], rfl, rfl, trivial⟩, rfl, rfl, ⟨by simp only; omega, ?_⟩, by simp only; omega⟩
           simp only
           rw [hst, bwStep, if_pos (by clear hK; first | (simp_all; done) | (simp_all; omega))])
        | (refine ⟨(j + 1, (j : Int) + 1, gradeD (after (doneD x ys 4000) ((j : Int) + 1))), rfl, ⟨by simp [lk, Nat.beq], rfl, rfl, trivial⟩, rfl, rfl, ⟨by simp only; omega, ?_⟩, by simp only; omega⟩
           simp only
           rw [hst, bwStep, if_neg (by clear hK; first | (simp_all; done) | (simp_all; omega)), if_pos (by clear hK; simp_all)])
        | (refine ⟨(j + 1, p, q), rfl, ⟨by simp [lk, Nat.beq], rfl, rfl, trivial⟩, rfl, rfl, ⟨by simp only; omega, ?_⟩, by simp only; omega⟩
           simp only
           rw [hst, bwStep, if_neg (by clear hK; first | (simp_all; done) | (simp_all; omega)), if_neg (by clear hK; first | (simp_all; done) | (simp_all; omega))])
    · obtain rfl : j = 4 := by simp only at hlt; omega
      repeat (any_goals (
        conv => whnf
        first
        | ((with_reducible refine BIF.dec ?_ ?_) <;> intro _)
        | ((with_reducible refine BIF.s ?_ ?_) <;> intro _)
        | (with_reducible refine NEXTK.normal ?_)
        | (with_reducible refine NEXTK.ret ?_)
        | (with_reducible refine NEXTK.exit ?_)
        | (with_reducible refine SEQ.plain ?_)
        | (with_reducible refine hK _ _ ?_)
        | ((with_reducible refine RUNL.agg (fun _ => ?_) ?_); (focus kernel_rfl))
        | (with_reducible refine RUNL.run ?_)
        | ((with_reducible refine AR.ok ?_ ?_); exact ⟨by first | omega | (dsimp only; omega), by first | omega | (dsimp only; omega)⟩)
        | (with_reducible refine AR.wr ?_)
        | ((with_reducible intro w3 e3); try have z3 := cutLe e3)
        | ((with_reducible intro h3); have h4 := Nat.le_of_lt h3; clear h4)))
      intro hx'
      refine ⟨?_, hx'⟩
      rw [bestP_good g1 hi hx, ← hpq]; rfl
  · repeat (any_goals (
      conv => whnf
      first
      | ((with_reducible refine callF (g := 44) ?_ ?_); kernel_rfl; refine ⟨_, damageAt_c _ _ _ xs _ _ (by repeat (first | assumption | refine Row.e0 ?_ (by assumption))) hn hn1, ?_⟩; intro w4 e4; have z4 := cutLe e4)
      | ((with_reducible refine callF (g := 37) ?_ ?_); kernel_rfl; refine ⟨_, AreRepairs_c _ _ _ _ _ _ xs ys _ (by repeat (first | assumption | refine Row.e0 ?_ (by assumption))) (by repeat (first | assumption | refine Row.e0 ?_ (by assumption))) hn hm hn1 hm1 hc, ?_⟩; intro w4 e4; have z4 := cutLe e4)
      | ((with_reducible refine OBL.mk ?_ (fun _ => ?_)) <;> (exfalso; exact hg ⟨by simp_all, by omega⟩))
      | ((with_reducible refine BIF.dec ?_ ?_) <;> intro _)
      | ((with_reducible refine BIF.s ?_ ?_) <;> intro _)
      | (with_reducible refine NEXTK.normal ?_)
      | (with_reducible refine NEXTK.ret ?_)
      | (with_reducible refine NEXTK.exit ?_)
      | (with_reducible refine SEQ.plain ?_)
      | (with_reducible refine hK _ _ ?_)
      | ((with_reducible refine RUNL.agg (fun _ => ?_) ?_); (focus kernel_rfl))
      | (with_reducible refine RUNL.run ?_)
      | ((with_reducible refine AR.ok ?_ ?_); exact ⟨by first | omega | (dsimp only; omega), by first | omega | (dsimp only; omega)⟩)
      | (with_reducible refine AR.wr ?_)
      | ((with_reducible intro w3 e3); try have z3 := cutLe e3)
      | ((with_reducible intro h3); have h4 := Nat.le_of_lt h3; clear h4)))
    all_goals
      intro hx'
      refine ⟨?_, hx'⟩
      rw [bestP_bad hg]; rfl
theorem BestWorkS_c (a b : Option Addr) (n c m d : Nat) (xs : List Dmg) (ys : List Rep) (s : Int) (w : World) (hr : Row w a 4 (xs.map encDmg)) (hs : Row w b 3 (ys.map encRep)) (hn : xs.length = n) (hm : ys.length = m) (hn1 : n ≤ 4611686018427387904) (hm1 : m ≤ 4611686018427387904) (hc : m ≤ d ∧ d < 9223372036854775808) :
    Calls Try.prog 23 #[.slice a n c, .slice b m d, .int .i64 s] w fun e w' => e = .returned (.tuple #[.int .i64 (bestP xs ys s).1.1, .int .i64 (bestP xs ys s).1.2, .bool (bestP xs ys s).2]) ∧ E0 w w' := by
  refine enterK Non 58 Try.func23 rfl rfl rfl fun K hK => ?_
  by_cases hg : areR xs ys = true ∧ 0 ≤ dAt xs s
  · obtain ⟨g1, g2⟩ := hg
    rcases dAt_spec xs s with hi | ⟨k, x, hi, hk, hx, hxs⟩
    · omega
    have his := hr.isSome (by simp; omega)
    have hxo := areD_at (areR_spec g1).1 hx
    have hzo := doneD_ok hxo ys 4000
    repeat (any_goals (
      conv => whnf
      first
      | ((with_reducible refine callF (g := 39) ?_ ?_); kernel_rfl; refine ⟨_, l22Find_c _ _ _ xs _ _ (by repeat (first | assumption | refine Row.e0 ?_ (by assumption))) hn hn1, ?_⟩; intro w4 e4; have z4 := cutLe e4)
      | ((with_reducible refine callF (g := 47) ?_ ?_); kernel_rfl; refine ⟨_, l22Good_c _ _ _ _ _ _ xs ys _ (by repeat (first | assumption | refine Row.e0 ?_ (by assumption))) (by repeat (first | assumption | refine Row.e0 ?_ (by assumption))) hn hm hn1 hm1 hc, ?_⟩; intro w4 e4; have z4 := cutLe e4)
      | ((with_reducible refine BIF.s (fun h => absurd h ?_) (fun _ => ?_)); focus (simp [g1]; done))
      | ((with_reducible refine BIF.s (fun _ => ?_) (fun h => absurd h ?_)); rotate_left; focus (simp [g1]; done))
      | ((exfalso; omega))
      | ((with_reducible refine OBL.mk ?_ (fun _ => ?_)); exact ⟨by omega, by omega, his⟩)
      | ((with_reducible refine ELD.at k hr ?_ ?_ hk (fun x' hx' => ?_)); exact mAddr_Non _; omega; obtain rfl : x = x' := by (rw [hx] at hx'; exact Option.some.inj hx'))
      | ((with_reducible refine callF (g := 49) ?_ ?_); kernel_rfl; refine ⟨_, l22On_c _ _ _ x ys _ _ (by repeat (first | assumption | refine Row.e0 ?_ (by assumption))) hm hm1 hxo (areR_works g1), ?_⟩; intro w4 e4; have z4 := cutLe e4)
      | ((with_reducible refine BIF.dec ?_ ?_) <;> intro _)
      | ((with_reducible refine BIF.s ?_ ?_) <;> intro _)
      | (with_reducible refine NEXTK.normal ?_)
      | (with_reducible refine NEXTK.ret ?_)
      | (with_reducible refine NEXTK.exit ?_)
      | (with_reducible refine SEQ.plain ?_)
      | (with_reducible refine hK _ _ ?_)
      | ((with_reducible refine RUNL.agg (fun _ => ?_) ?_); (focus kernel_rfl))
      | (with_reducible refine RUNL.run ?_)
      | ((with_reducible refine AR.ok ?_ ?_); exact ⟨by first | omega | (dsimp only; omega), by first | omega | (dsimp only; omega)⟩)
      | (with_reducible refine AR.wr ?_)
      | ((with_reducible intro w3 e3); try have z3 := cutLe e3)
      | ((with_reducible intro h3); have h4 := Nat.le_of_lt h3; clear h4)))
    conv => whnf
    refine LOOP.mk (Nat × Int × Int) (fun t => [(13, .v (.int .i64 ((t.1 : Int) + 1))), (11, .v (.int .i64 t.2.1)), (12, .v (.int .i64 t.2.2))]) (fun t _ => t.1 ≤ 4 ∧ t.2 = bwAt (doneD x ys 4000) (linedP ys s) t.1) (fun t => 4 - t.1) (0, 0, 0) rfl ⟨rfl, rfl, rfl, trivial⟩ ⟨Nat.zero_le _, rfl⟩ ?_
    rintro ⟨j, p, q⟩ wr ew ⟨hj, hpq⟩
    simp only at hj hpq
    conv => whnf
    repeat (first | ((with_reducible refine NEXTK.normal ?_); conv => whnf) | ((with_reducible refine NEXTK.exit ?_); conv => whnf) | ((with_reducible refine NEXTK.ret ?_); conv => whnf) | ((with_reducible refine SEQ.plain ?_); conv => whnf) | ((with_reducible refine AR.ok ?_ ?_); exact ⟨by omega, by omega⟩; conv => whnf))
    refine BIF.dec (fun hlt => ?_) (fun hlt => ?_)
    · have hj4 : j < 4 := by simp only at hlt; omega
      have hst : bwAt (doneD x ys 4000) (linedP ys s) (j + 1) = bwStep (doneD x ys 4000) (linedP ys s) (p, q) (j + 1) := by rw [bwAt, ← hpq]
      repeat (any_goals (
        conv => whnf
        first
        | ((with_reducible refine callX (g := 54) ?_ ?_); kernel_rfl; intro hX; refine ⟨_, l22Lined_c _ _ _ ys _ _ (hs.e0 hX) hm hm1, ?_⟩; intro w4 e4; have z4 := cutLe e4; clear hX)
        | ((with_reducible refine callF (g := 56) ?_ ?_); kernel_rfl; refine ⟨_, l22Do_c _ _ _ hzo (by omega), ?_⟩; intro w4 e4; have z4 := cutLe e4)
        | ((with_reducible refine callF (g := 55) ?_ ?_); kernel_rfl; refine ⟨_, l22Grade_c _ _ (after_ok hzo _), ?_⟩; intro w4 e4; have z4 := cutLe e4)
        | ((with_reducible refine BIF.dec ?_ ?_) <;> intro _)
        | ((with_reducible refine BIF.s ?_ ?_) <;> intro _)
        | (with_reducible refine NEXTK.normal ?_)
        | (with_reducible refine NEXTK.ret ?_)
        | (with_reducible refine NEXTK.exit ?_)
        | (with_reducible refine SEQ.plain ?_)
        | (with_reducible refine hK _ _ ?_)
        | ((with_reducible refine RUNL.agg (fun _ => ?_) ?_); (focus kernel_rfl))
        | (with_reducible refine RUNL.run ?_)
        | ((with_reducible refine AR.ok ?_ ?_); exact ⟨by first | omega | (dsimp only; omega), by first | omega | (dsimp only; omega)⟩)
        | (with_reducible refine AR.wr ?_)
        | ((with_reducible intro w3 e3); try have z3 := cutLe e3)
        | ((with_reducible intro h3); have h4 := Nat.le_of_lt h3; clear h4)))
      all_goals first
        | (refine ⟨(j + 1, p, q), rfl, ⟨by simp [lk, Nat.beq], rfl, rfl, trivial⟩, rfl, rfl, ⟨by simp only; omega, ?_⟩, by simp only; omega⟩
           simp only
           rw [hst, bwStep, if_pos (by clear hK; first | (simp_all; done) | (simp_all; omega))])
        | (refine ⟨(j + 1, (j : Int) + 1, gradeD (after (doneD x ys 4000) ((j : Int) + 1))), rfl, ⟨by simp [lk, Nat.beq], rfl, rfl, trivial⟩, rfl, rfl, ⟨by simp only; omega, ?_⟩, by simp only; omega⟩
           simp only
           rw [hst, bwStep, if_neg (by clear hK; first | (simp_all; done) | (simp_all; omega)), if_pos (by clear hK; simp_all)])
        | (refine ⟨(j + 1, p, q), rfl, ⟨by simp [lk, Nat.beq], rfl, rfl, trivial⟩, rfl, rfl, ⟨by simp only; omega, ?_⟩, by simp only; omega⟩
           simp only
           rw [hst, bwStep, if_neg (by clear hK; first | (simp_all; done) | (simp_all; omega)), if_neg (by clear hK; first | (simp_all; done) | (simp_all; omega))])
    · obtain rfl : j = 4 := by simp only at hlt; omega
      repeat (any_goals (
        conv => whnf
        first
        | ((with_reducible refine BIF.dec ?_ ?_) <;> intro _)
        | ((with_reducible refine BIF.s ?_ ?_) <;> intro _)
        | (with_reducible refine NEXTK.normal ?_)
        | (with_reducible refine NEXTK.ret ?_)
        | (with_reducible refine NEXTK.exit ?_)
        | (with_reducible refine SEQ.plain ?_)
        | (with_reducible refine hK _ _ ?_)
        | ((with_reducible refine RUNL.agg (fun _ => ?_) ?_); (focus kernel_rfl))
        | (with_reducible refine RUNL.run ?_)
        | ((with_reducible refine AR.ok ?_ ?_); exact ⟨by first | omega | (dsimp only; omega), by first | omega | (dsimp only; omega)⟩)
        | (with_reducible refine AR.wr ?_)
        | ((with_reducible intro w3 e3); try have z3 := cutLe e3)
        | ((with_reducible intro h3); have h4 := Nat.le_of_lt h3; clear h4)))
      intro hx'
      refine ⟨?_, hx'⟩
      rw [bestP_good g1 hi hx, ← hpq]; rfl
  · repeat (any_goals (
      conv => whnf
      first
      | ((with_reducible refine callF (g := 39) ?_ ?_); kernel_rfl; refine ⟨_, l22Find_c _ _ _ xs _ _ (by repeat (first | assumption | refine Row.e0 ?_ (by assumption))) hn hn1, ?_⟩; intro w4 e4; have z4 := cutLe e4)
      | ((with_reducible refine callF (g := 47) ?_ ?_); kernel_rfl; refine ⟨_, l22Good_c _ _ _ _ _ _ xs ys _ (by repeat (first | assumption | refine Row.e0 ?_ (by assumption))) (by repeat (first | assumption | refine Row.e0 ?_ (by assumption))) hn hm hn1 hm1 hc, ?_⟩; intro w4 e4; have z4 := cutLe e4)
      | ((with_reducible refine OBL.mk ?_ (fun _ => ?_)) <;> (exfalso; exact hg ⟨by simp_all, by omega⟩))
      | ((with_reducible refine BIF.dec ?_ ?_) <;> intro _)
      | ((with_reducible refine BIF.s ?_ ?_) <;> intro _)
      | (with_reducible refine NEXTK.normal ?_)
      | (with_reducible refine NEXTK.ret ?_)
      | (with_reducible refine NEXTK.exit ?_)
      | (with_reducible refine SEQ.plain ?_)
      | (with_reducible refine hK _ _ ?_)
      | ((with_reducible refine RUNL.agg (fun _ => ?_) ?_); (focus kernel_rfl))
      | (with_reducible refine RUNL.run ?_)
      | ((with_reducible refine AR.ok ?_ ?_); exact ⟨by first | omega | (dsimp only; omega), by first | omega | (dsimp only; omega)⟩)
      | (with_reducible refine AR.wr ?_)
      | ((with_reducible intro w3 e3); try have z3 := cutLe e3)
      | ((with_reducible intro h3); have h4 := Nat.le_of_lt h3; clear h4)))
    all_goals
      intro hx'
      refine ⟨?_, hx'⟩
      rw [bestP_bad hg]; rfl

end Go.Proofs.Ytgopcppegjhmiaa

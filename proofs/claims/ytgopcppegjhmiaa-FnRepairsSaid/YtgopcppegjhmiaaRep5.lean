/- The plan of works. -/
import Derived.Test.YtgopcppegjhmiaaRows
import Derived.Test.YtgopcppegjhmiaaRep4
namespace Go.Proofs.Ytgopcppegjhmiaa
open Go Go.X Go.Proofs Go.ChangeShapes Go.WideShapes Go.ChangeAt Go.RowKit
open Go.ChangeMaps (open_string shut_string)
set_option maxHeartbeats 1000000
set_option maxRecDepth 20000
set_option linter.unusedVariables false
set_option linter.unusedSimpArgs false
def planStep (f : Dmg → Bool → List Int × Int) (x : Dmg) (l : Bool) (g : List Int × Int) (k : Int) : List Int × Int :=
  if 3 ≤ k ∧ l = true then g
  else if g.1 = [] ∨ (f (after x k) (l || (k == 4))).2 < g.2 then (k :: (f (after x k) (l || (k == 4))).1, (f (after x k) (l || (k == 4))).2) else g
def planAt (f : Dmg → Bool → List Int × Int) (x : Dmg) (l : Bool) : Nat → List Int × Int
  | 0 => ([], 0)
  | k + 1 => planStep f x l (planAt f x l k) (k + 1)
def planP : Nat → Dmg → Bool → List Int × Int
  | 0, x, _ => ([], gradeD x)
  | n + 1, x, l => planAt (planP n) x l 4
theorem planAt_len {f : Dmg → Bool → List Int × Int} {n : Nat} (h : ∀ x l, (f x l).1.length ≤ n) (x : Dmg) (l : Bool) (k : Nat) : (planAt f x l k).1.length ≤ n + 1 := by
  induction k with
  | zero => simp [planAt]
  | succ k ih =>
    simp only [planAt, planStep]
    split
    · exact ih
    · split
      · have := h (after x (k + 1)) (l || ((k : Int) + 1 == 4))
        simp only [List.length_cons]; omega
      · exact ih
theorem planP_len (n : Nat) : ∀ x l, (planP n x l).1.length ≤ n := by
  induction n with
  | zero => intro x l; simp [planP]
  | succ n ih => intro x l; exact planAt_len ih x l 4
theorem plan_c (n : Nat) (hn : n ≤ 4) : ∀ (i : Int) (_ : i = n) (x : Dmg) (l : Bool) (w : World), okD x = true → Calls Try.prog 46 #[.agg (encDmg x).toArray, .int .i64 i, .bool l] w fun e w' => ∃ r, e = .returned r ∧ E0 w w' ∧ ∃ s, r = .tuple #[s, .int .i64 (planP n x l).2] ∧ Own w' w.heap.size 3 1 s ((planP n x l).1.map encI) := by
  induction n with
  | zero =>
    intro i hi x l w hok
    refine enterK Non 54 Try.func46 rfl rfl rfl fun K hK => ?_
    repeat (any_goals (
      conv => whnf
      first
      | ((with_reducible refine BIF.beq ?_ ?_) <;> intro _)
      | ((with_reducible refine callF (g := 59) ?_ ?_); kernel_rfl; refine ⟨_, grade_c _ _ hok, ?_⟩; intro w4 e4; have z4 := cutLe e4)
      | ((exfalso; omega))
      | ((with_reducible refine BIF.dec ?_ ?_) <;> intro _)
      | ((with_reducible refine BIF.s ?_ ?_) <;> intro _)
      | (with_reducible refine NEXTK.normal ?_)
      | (with_reducible refine NEXTK.ret ?_)
      | (with_reducible refine NEXTK.exit ?_)
      | (with_reducible refine SEQ.plain ?_)
      | (with_reducible refine hK _ _ ?_)
      | ((with_reducible refine RUNL.agg (fun _ => ?_) ?_); (focus kernel_rfl))
      | (with_reducible refine RUNL.run ?_)
      | ((with_reducible refine AR.ok ?_ ?_); exact ⟨by first | omega | (dsimp only; omega), by first | omega | (dsimp only; omega)⟩)
      | (with_reducible refine AR.wr ?_)
      | ((with_reducible intro w3 e3); try have z3 := cutLe e3)
      | ((with_reducible intro h3); have h4 := Nat.le_of_lt h3; clear h4)))
    intro hx'
    exact ⟨_, rfl, hx', _, rfl, Own.nil _ _ _ _⟩
  | succ n ih =>
    intro i hi x l w hok
    have ih := ih (by omega)
    refine enterK Non 54 Try.func46 rfl rfl rfl fun K hK => ?_
    repeat (any_goals (
      conv => whnf
      first
      | ((with_reducible refine BIF.beq ?_ ?_) <;> intro _)
      | ((exfalso; omega))
      | ((with_reducible refine BIF.dec ?_ ?_) <;> intro _)
      | ((with_reducible refine BIF.s ?_ ?_) <;> intro _)
      | (with_reducible refine NEXTK.normal ?_)
      | (with_reducible refine NEXTK.ret ?_)
      | (with_reducible refine NEXTK.exit ?_)
      | (with_reducible refine SEQ.plain ?_)
      | (with_reducible refine hK _ _ ?_)
      | ((with_reducible refine RUNL.agg (fun _ => ?_) ?_); (focus kernel_rfl))
      | (with_reducible refine RUNL.run ?_)
      | ((with_reducible refine AR.ok ?_ ?_); exact ⟨by first | omega | (dsimp only; omega), by first | omega | (dsimp only; omega)⟩)
      | (with_reducible refine AR.wr ?_)
      | ((with_reducible intro w3 e3); try have z3 := cutLe e3)
      | ((with_reducible intro h3); have h4 := Nat.le_of_lt h3; clear h4)))
    conv => whnf
    refine LOOP.mk (Nat × (Option Addr × Nat × Nat) × Int) (fun g => [(10, .v (.int .i64 ((g.1 : Int) + 1))), (8, .v (.slice g.2.1.1 g.2.1.2.1 g.2.1.2.2)), (9, .v (.int .i64 g.2.2))])
      (fun g wr => g.1 ≤ 4 ∧ w.heap.size < wr.heap.size ∧ g.2.2 = (planAt (planP n) x l g.1).2 ∧ g.2.1.1.isNone = decide ((planAt (planP n) x l g.1).1 = []) ∧ Own wr w.heap.size 3 1 (.slice g.2.1.1 g.2.1.2.1 g.2.1.2.2) ((planAt (planP n) x l g.1).1.map encI)) (fun g => 4 - g.1) (0, (none, 0, 0), 0) rfl ⟨rfl, rfl, rfl, trivial⟩ ⟨Nat.zero_le _, by assumption, rfl, rfl, Own.nil _ _ _ _⟩ ?_
    rintro ⟨j, ⟨b, m, d⟩, s⟩ wr - ⟨hj, hz, hs, hb, hown⟩
    simp only at hj hs hz hb hown
    dsimp only
    conv => whnf
    repeat (first | ((with_reducible refine NEXTK.normal ?_); conv => whnf) | ((with_reducible refine NEXTK.exit ?_); conv => whnf) | ((with_reducible refine NEXTK.ret ?_); conv => whnf) | ((with_reducible refine SEQ.plain ?_); conv => whnf) | ((with_reducible refine AR.ok ?_ ?_); exact ⟨by omega, by omega⟩; conv => whnf))
    refine BIF.dec (fun hlt => ?_) (fun hlt => ?_)
    · have hj4 : j < 4 := by omega
      have hst : planAt (planP n) x l (j + 1) = planStep (planP n) x l (planAt (planP n) x l j) ((j : Int) + 1) := rfl
      obtain ⟨L, hL⟩ : ∃ L, L = planAt (planP n) x l (j + 1) := ⟨_, rfl⟩
      have hpl := planP_len n (after x ((j : Int) + 1)) ((j : Int) + 1 == 4)
      have hpl2 := planP_len n (after x ((j : Int) + 1)) true
      by_cases hskip : 3 ≤ (j : Int) + 1 ∧ l = true
      · obtain ⟨hk3, rfl⟩ := hskip
        repeat (any_goals (
          conv => whnf
          first
          | ((exfalso; omega))
          | ((with_reducible refine BIF.s (fun h => absurd h ?_) (fun _ => ?_)); focus (first | (simp; done) | (simp; omega)))
          | ((with_reducible refine BIF.s (fun _ => ?_) (fun h => absurd h ?_)); rotate_left; focus (first | (simp; done) | (simp; omega)))
          | ((with_reducible refine BIF.dec ?_ ?_) <;> intro _)
          | ((with_reducible refine BIF.s ?_ ?_) <;> intro _)
          | (with_reducible refine NEXTK.normal ?_)
          | (with_reducible refine NEXTK.ret ?_)
          | (with_reducible refine NEXTK.exit ?_)
          | (with_reducible refine SEQ.plain ?_)
          | (with_reducible refine hK _ _ ?_)
          | ((with_reducible refine RUNL.agg (fun _ => ?_) ?_); (focus kernel_rfl))
          | (with_reducible refine RUNL.run ?_)
          | ((with_reducible refine AR.ok ?_ ?_); exact ⟨by first | omega | (dsimp only; omega), by first | omega | (dsimp only; omega)⟩)
          | (with_reducible refine AR.wr ?_)
          | ((with_reducible intro w3 e3); try have z3 := cutLe e3)
          | ((with_reducible intro h3); have h4 := Nat.le_of_lt h3; clear h4)))
        refine ⟨(j + 1, (b, m, d), s), rfl, ⟨by simp [lk, Nat.beq], rfl, rfl, trivial⟩, rfl, rfl, ⟨by simp only; omega, by simpa using hz, ?_, ?_, ?_⟩, by simp only; omega⟩
        · simp only
          rw [hst, planStep, if_pos ⟨hk3, rfl⟩, hs]
        · simp only
          rw [hst, planStep, if_pos ⟨hk3, rfl⟩, hb]
        · simp only
          rw [hst, planStep, if_pos ⟨hk3, rfl⟩]; exact hown
      · have hsk : ¬ (3 ≤ (j : Int) + 1 ∧ l = true) := hskip
        have hsk2 : l = true → ¬ 3 ≤ (j : Int) + 1 := fun h1 h2 => hsk ⟨h2, h1⟩
        by_cases hupd : (planAt (planP n) x l j).1 = [] ∨ (planP n (after x ((j : Int) + 1)) (l || ((j : Int) + 1 == 4))).2 < (planAt (planP n) x l j).2
        · rw [planStep, if_neg hsk, if_pos hupd, ← hL] at hst
          have hupd2 : b.isNone = true ∨ b.isNone = false ∧ (planP n (after x ((j : Int) + 1)) (l || ((j : Int) + 1 == 4))).2 < s := by
            rw [hb]
            by_cases h0 : (planAt (planP n) x l j).1 = []
            · left; simp [h0]
            · right; refine ⟨by simp [h0], ?_⟩
              rw [hs]; exact hupd.resolve_left h0
          cases l
          all_goals
            rcases hupd2 with hnone | ⟨hsome, hless⟩
            all_goals
              try simp only [Bool.false_or, Bool.true_or] at hless
              repeat (any_goals (
                conv => whnf
                first
                | ((with_reducible refine BIF.s (fun _ => ?_) (fun h => absurd h ?_)); rotate_left; focus (rw [decide_eq_true hless]; decide))
                | ((with_reducible refine BIF.dec ?_ ?_) <;> intro _)
                | ((exfalso; have hh := hsk2 rfl; omega))
                | ((with_reducible refine BIF.s (fun h => absurd h ?_) (fun _ => ?_)); focus (first | (simp; done) | (simp; omega)))
                | ((with_reducible refine BIF.s (fun _ => ?_) (fun h => absurd h ?_)); rotate_left; focus (first | (simp; done) | (simp; omega)))
                | ((with_reducible refine callF (g := 58) ?_ ?_); kernel_rfl; refine ⟨_, after_c _ _ _ hok, ?_⟩; intro w4 e4; have z4 := cutLe e4)
                | ((with_reducible refine callS (g := 46) ?_ ?_); kernel_rfl; refine ⟨_, ih _ (by omega) _ _ _ (after_ok hok _), ?_⟩; intro r5 w5 e5 h5; have z6 := cutLe e5; obtain ⟨s5, rfl, o5⟩ := h5; obtain ⟨b5, d5, rfl, q5, p5⟩ := o5.rowx)
                | ((with_reducible refine BIF.s (fun h => absurd h ?_) (fun _ => ?_)); focus (simp [hnone]; done))
                | ((with_reducible refine BIF.s (fun _ => ?_) (fun h => absurd h ?_)); rotate_left; focus (simp [hnone]; done))
                | ((with_reducible refine BIF.s (fun h => absurd h ?_) (fun _ => ?_)); focus (simp [hsome]; done))
                | ((with_reducible refine BIF.s (fun _ => ?_) (fun h => absurd h ?_)); rotate_left; focus (simp [hsome]; done))
                | ((with_reducible refine bsS elemI [.int .i64 ((j : Int) + 1)] ?_ ?_ ?_ ?_ ?_); (focus rfl); (focus rfl); (focus (intro v hv; simp at hv; subst hv; rfl)); (focus omega); intro w9 e9 oB; have z9 := cutLe e9; (try replace oC := oC.e0 e9))
                | ((with_reducible refine BIF.dec ?_ ?_) <;> intro _)
                | ((with_reducible refine BIF.s ?_ ?_) <;> intro _)
                | (with_reducible refine NEXTK.normal ?_)
                | (with_reducible refine NEXTK.ret ?_)
                | (with_reducible refine NEXTK.exit ?_)
                | (with_reducible refine SEQ.plain ?_)
                | (with_reducible refine hK _ _ ?_)
                | ((with_reducible refine RUNL.agg (fun _ => ?_) ?_); (focus kernel_rfl))
                | (with_reducible refine RUNL.run ?_)
                | ((with_reducible refine AR.ok ?_ ?_); exact ⟨by first | omega | (dsimp only; omega), by first | omega | (dsimp only; omega)⟩)
                | (with_reducible refine AR.wr ?_)
                | ((with_reducible intro w3 e3); try have z3 := cutLe e3)
                | ((with_reducible intro h3); have h4 := Nat.le_of_lt h3; clear h4)))
              all_goals
                conv => whnf
                have oL := fun k h => oB.block (k := k) h
                refine apS elemI oB (q5.e0 e9) (by simp) (by intro l hl; obtain ⟨x, -, rfl⟩ := List.mem_map.1 hl; rfl) ⟨by simp; omega, by simp; omega⟩ ⟨by show w.heap.size ≤ _; omega, by omega⟩ ⟨fun h => by have := (oL _ h).1; dsimp only at this; omega, trivial⟩ (fun v2 w2 x2 o2 => ?_)
                have z2 := cutLe x2
                replace o2 : Own w2 w.heap.size 3 1 v2 (L.1.map encI) := by rw [hst]; exact o2.lo (by omega)
                obtain ⟨b2, d2, rfl, q2, p2⟩ := o2.rowx
                have his := q2.isSome (by rw [hst]; simp)
                repeat (any_goals (
                  conv => whnf
                  first
                  | ((with_reducible refine BIF.dec ?_ ?_) <;> intro _)
                  | ((with_reducible refine BIF.s ?_ ?_) <;> intro _)
                  | (with_reducible refine NEXTK.normal ?_)
                  | (with_reducible refine NEXTK.ret ?_)
                  | (with_reducible refine NEXTK.exit ?_)
                  | (with_reducible refine SEQ.plain ?_)
                  | (with_reducible refine hK _ _ ?_)
                  | ((with_reducible refine RUNL.agg (fun _ => ?_) ?_); (focus kernel_rfl))
                  | (with_reducible refine RUNL.run ?_)
                  | ((with_reducible refine AR.ok ?_ ?_); exact ⟨by first | omega | (dsimp only; omega), by first | omega | (dsimp only; omega)⟩)
                  | (with_reducible refine AR.wr ?_)
                  | ((with_reducible intro w3 e3); try have z3 := cutLe e3)
                  | ((with_reducible intro h3); have h4 := Nat.le_of_lt h3; clear h4)))
                refine ⟨(j + 1, (b2, _, d2), _), rfl, ⟨by simp [lk, Nat.beq], rfl, rfl, trivial⟩, rfl, rfl, ⟨by simp only; omega, by show w.heap.size < w2.heap.size; omega, ?_, ?_, by rw [← hL]; exact o2⟩, by simp only; omega⟩
                · simp only
                  rw [← hL, hst]; rfl
                · simp only
                  rw [← hL, hst]
                  cases b2 with
                  | none => simp at his
                  | some _ => simp
        · rw [planStep, if_neg hsk, if_neg hupd, ← hL] at hst
          have hsome : b.isNone = false := by
            rw [hb]; simp only [decide_eq_false_iff_not]; exact fun h => hupd (.inl h)
          have hless : ¬ (planP n (after x ((j : Int) + 1)) (l || ((j : Int) + 1 == 4))).2 < s := by rw [hs]; exact fun h => hupd (.inr h)
          cases l
          all_goals
            simp only [Bool.false_or, Bool.true_or] at hless
            repeat (any_goals (
              conv => whnf
              first
              | ((with_reducible refine BIF.s (fun h => absurd h ?_) (fun _ => ?_)); focus (rw [decide_eq_false hless]; decide))
              | ((with_reducible refine BIF.dec ?_ ?_) <;> intro _)
              | ((exfalso; have hh := hsk2 rfl; omega))
              | ((with_reducible refine BIF.s (fun h => absurd h ?_) (fun _ => ?_)); focus (first | (simp; done) | (simp; omega)))
              | ((with_reducible refine BIF.s (fun _ => ?_) (fun h => absurd h ?_)); rotate_left; focus (first | (simp; done) | (simp; omega)))
              | ((with_reducible refine callF (g := 58) ?_ ?_); kernel_rfl; refine ⟨_, after_c _ _ _ hok, ?_⟩; intro w4 e4; have z4 := cutLe e4)
              | ((with_reducible refine callS (g := 46) ?_ ?_); kernel_rfl; refine ⟨_, ih _ (by omega) _ _ _ (after_ok hok _), ?_⟩; intro r5 w5 e5 h5; have z6 := cutLe e5; obtain ⟨s5, rfl, o5⟩ := h5; obtain ⟨b5, d5, rfl, q5, p5⟩ := o5.rowx)
              | ((with_reducible refine BIF.s (fun h => absurd h ?_) (fun _ => ?_)); focus (simp [hsome]; done))
              | ((with_reducible refine BIF.s (fun _ => ?_) (fun h => absurd h ?_)); rotate_left; focus (simp [hsome]; done))
              | ((with_reducible refine BIF.dec ?_ ?_) <;> intro _)
              | ((with_reducible refine BIF.s ?_ ?_) <;> intro _)
              | (with_reducible refine NEXTK.normal ?_)
              | (with_reducible refine NEXTK.ret ?_)
              | (with_reducible refine NEXTK.exit ?_)
              | (with_reducible refine SEQ.plain ?_)
              | (with_reducible refine hK _ _ ?_)
              | ((with_reducible refine RUNL.agg (fun _ => ?_) ?_); (focus kernel_rfl))
              | (with_reducible refine RUNL.run ?_)
              | ((with_reducible refine AR.ok ?_ ?_); exact ⟨by first | omega | (dsimp only; omega), by first | omega | (dsimp only; omega)⟩)
              | (with_reducible refine AR.wr ?_)
              | ((with_reducible intro w3 e3); try have z3 := cutLe e3)
              | ((with_reducible intro h3); have h4 := Nat.le_of_lt h3; clear h4)))
            all_goals
              refine ⟨(j + 1, (b, m, d), s), rfl, ⟨by simp [lk, Nat.beq], rfl, rfl, trivial⟩, rfl, rfl, ⟨by simp only; omega, by show w.heap.size < w5.heap.size; omega, ?_, ?_, ?_⟩, by simp only; omega⟩
              · simp only
                rw [← hL, hst, hs]
              · simp only
                rw [← hL, hst, hb]
              · simp only
                rw [← hL, hst]; exact (hown.e0 e4).e0 e5
    · obtain rfl : j = 4 := by omega
      repeat (any_goals (
        conv => whnf
        first
        | ((with_reducible refine BIF.dec ?_ ?_) <;> intro _)
        | ((with_reducible refine BIF.s ?_ ?_) <;> intro _)
        | (with_reducible refine NEXTK.normal ?_)
        | (with_reducible refine NEXTK.ret ?_)
        | (with_reducible refine NEXTK.exit ?_)
        | (with_reducible refine SEQ.plain ?_)
        | (with_reducible refine hK _ _ ?_)
        | ((with_reducible refine RUNL.agg (fun _ => ?_) ?_); (focus kernel_rfl))
        | (with_reducible refine RUNL.run ?_)
        | ((with_reducible refine AR.ok ?_ ?_); exact ⟨by first | omega | (dsimp only; omega), by first | omega | (dsimp only; omega)⟩)
        | (with_reducible refine AR.wr ?_)
        | ((with_reducible intro w3 e3); try have z3 := cutLe e3)
        | ((with_reducible intro h3); have h4 := Nat.le_of_lt h3; clear h4)))
      intro hx'
      subst hs
      exact ⟨_, rfl, hx', _, rfl, hown⟩
theorem l22Plan_c (n : Nat) (hn : n ≤ 4) : ∀ (i : Int) (_ : i = n) (x : Dmg) (l : Bool) (w : World), okD x = true → Calls Try.prog 42 #[.agg (encDmg x).toArray, .bool l, .int .i64 i] w fun e w' => ∃ r, e = .returned r ∧ E0 w w' ∧ ∃ s, r = .tuple #[s, .int .i64 (planP n x l).2] ∧ Own w' w.heap.size 3 1 s ((planP n x l).1.map encI) := by
  induction n with
  | zero =>
    intro i hi x l w hok
    refine enterK Non 57 Try.func42 rfl rfl rfl fun K hK => ?_
    repeat (any_goals (
      conv => whnf
      first
      | ((with_reducible refine BIF.beq ?_ ?_) <;> intro _)
      | ((with_reducible refine bsS elemI [] rfl rfl (by simp) (by omega) (fun w9 e9 o9 => ?_)); have z9 := cutLe e9)
      | ((with_reducible refine callF (g := 55) ?_ ?_); kernel_rfl; refine ⟨_, l22Grade_c _ _ hok, ?_⟩; intro w4 e4; have z4 := cutLe e4)
      | ((exfalso; omega))
      | ((with_reducible refine BIF.dec ?_ ?_) <;> intro _)
      | ((with_reducible refine BIF.s ?_ ?_) <;> intro _)
      | (with_reducible refine NEXTK.normal ?_)
      | (with_reducible refine NEXTK.ret ?_)
      | (with_reducible refine NEXTK.exit ?_)
      | (with_reducible refine SEQ.plain ?_)
      | (with_reducible refine hK _ _ ?_)
      | ((with_reducible refine RUNL.agg (fun _ => ?_) ?_); (focus kernel_rfl))
      | (with_reducible refine RUNL.run ?_)
      | ((with_reducible refine AR.ok ?_ ?_); exact ⟨by first | omega | (dsimp only; omega), by first | omega | (dsimp only; omega)⟩)
      | (with_reducible refine AR.wr ?_)
      | ((with_reducible intro w3 e3); try have z3 := cutLe e3)
      | ((with_reducible intro h3); have h4 := Nat.le_of_lt h3; clear h4)))
    intro hx'
    exact ⟨_, rfl, hx', _, rfl, (o9.e0 e4).lo (by omega)⟩
  | succ n ih =>
    intro i hi x l w hok
    have ih := ih (by omega)
    refine enterK Non 57 Try.func42 rfl rfl rfl fun K hK => ?_
    repeat (any_goals (
      conv => whnf
      first
      | ((with_reducible refine BIF.beq ?_ ?_) <;> intro _)
      | ((exfalso; omega))
      | ((with_reducible refine bsS elemI [] rfl rfl (by simp) (by omega) (fun w9 e9 o9 => ?_)); have z9 := cutLe e9)
      | ((with_reducible refine BIF.dec ?_ ?_) <;> intro _)
      | ((with_reducible refine BIF.s ?_ ?_) <;> intro _)
      | (with_reducible refine NEXTK.normal ?_)
      | (with_reducible refine NEXTK.ret ?_)
      | (with_reducible refine NEXTK.exit ?_)
      | (with_reducible refine SEQ.plain ?_)
      | (with_reducible refine hK _ _ ?_)
      | ((with_reducible refine RUNL.agg (fun _ => ?_) ?_); (focus kernel_rfl))
      | (with_reducible refine RUNL.run ?_)
      | ((with_reducible refine AR.ok ?_ ?_); exact ⟨by first | omega | (dsimp only; omega), by first | omega | (dsimp only; omega)⟩)
      | (with_reducible refine AR.wr ?_)
      | ((with_reducible intro w3 e3); try have z3 := cutLe e3)
      | ((with_reducible intro h3); have h4 := Nat.le_of_lt h3; clear h4)))
    conv => whnf
    refine LOOP.mk (Nat × (Option Addr × Nat × Nat) × Int) (fun g => [(10, .v (.int .i64 ((g.1 : Int) + 1))), (8, .v (.slice g.2.1.1 g.2.1.2.1 g.2.1.2.2)), (9, .v (.int .i64 g.2.2))])
      (fun g wr => g.1 ≤ 4 ∧ w.heap.size < wr.heap.size ∧ g.2.2 = (planAt (planP n) x l g.1).2 ∧ g.2.1.2.1 = (planAt (planP n) x l g.1).1.length ∧ Own wr w.heap.size 3 1 (.slice g.2.1.1 g.2.1.2.1 g.2.1.2.2) ((planAt (planP n) x l g.1).1.map encI)) (fun g => 4 - g.1) (0, (_, 0, 0), 0) rfl ⟨rfl, rfl, rfl, trivial⟩ ⟨Nat.zero_le _, by show w.heap.size < w9.heap.size; omega, rfl, rfl, o9.lo (by omega)⟩ ?_
    rintro ⟨j, ⟨b, m, d⟩, s⟩ wr - ⟨hj, hz, hs, hb, hown⟩
    simp only at hj hs hz hb hown
    dsimp only
    conv => whnf
    repeat (first | ((with_reducible refine NEXTK.normal ?_); conv => whnf) | ((with_reducible refine NEXTK.exit ?_); conv => whnf) | ((with_reducible refine NEXTK.ret ?_); conv => whnf) | ((with_reducible refine SEQ.plain ?_); conv => whnf) | ((with_reducible refine AR.ok ?_ ?_); exact ⟨by omega, by omega⟩; conv => whnf))
    refine BIF.dec (fun hlt => ?_) (fun hlt => ?_)
    · have hj4 : j < 4 := by omega
      have hst : planAt (planP n) x l (j + 1) = planStep (planP n) x l (planAt (planP n) x l j) ((j : Int) + 1) := rfl
      obtain ⟨L, hL⟩ : ∃ L, L = planAt (planP n) x l (j + 1) := ⟨_, rfl⟩
      have hpl := planP_len n (after x ((j : Int) + 1)) ((j : Int) + 1 == 4)
      have hpl2 := planP_len n (after x ((j : Int) + 1)) true
      by_cases hskip : 3 ≤ (j : Int) + 1 ∧ l = true
      · obtain ⟨hk3, rfl⟩ := hskip
        repeat (any_goals (
          conv => whnf
          first
          | ((exfalso; omega))
          | ((with_reducible refine BIF.s (fun h => absurd h ?_) (fun _ => ?_)); focus (first | (simp; done) | (simp; omega)))
          | ((with_reducible refine BIF.s (fun _ => ?_) (fun h => absurd h ?_)); rotate_left; focus (first | (simp; done) | (simp; omega)))
          | ((with_reducible refine BIF.dec ?_ ?_) <;> intro _)
          | ((with_reducible refine BIF.s ?_ ?_) <;> intro _)
          | (with_reducible refine NEXTK.normal ?_)
          | (with_reducible refine NEXTK.ret ?_)
          | (with_reducible refine NEXTK.exit ?_)
          | (with_reducible refine SEQ.plain ?_)
          | (with_reducible refine hK _ _ ?_)
          | ((with_reducible refine RUNL.agg (fun _ => ?_) ?_); (focus kernel_rfl))
          | (with_reducible refine RUNL.run ?_)
          | ((with_reducible refine AR.ok ?_ ?_); exact ⟨by first | omega | (dsimp only; omega), by first | omega | (dsimp only; omega)⟩)
          | (with_reducible refine AR.wr ?_)
          | ((with_reducible intro w3 e3); try have z3 := cutLe e3)
          | ((with_reducible intro h3); have h4 := Nat.le_of_lt h3; clear h4)))
        refine ⟨(j + 1, (b, m, d), s), rfl, ⟨by simp [lk, Nat.beq], rfl, rfl, trivial⟩, rfl, rfl, ⟨by simp only; omega, by simpa using hz, ?_, ?_, ?_⟩, by simp only; omega⟩
        · simp only
          rw [hst, planStep, if_pos ⟨hk3, rfl⟩, hs]
        · simp only
          rw [hst, planStep, if_pos ⟨hk3, rfl⟩, hb]
        · simp only
          rw [hst, planStep, if_pos ⟨hk3, rfl⟩]; exact hown
      · have hsk : ¬ (3 ≤ (j : Int) + 1 ∧ l = true) := hskip
        have hsk2 : l = true → ¬ 3 ≤ (j : Int) + 1 := fun h1 h2 => hsk ⟨h2, h1⟩
        by_cases hupd : (planAt (planP n) x l j).1 = [] ∨ (planP n (after x ((j : Int) + 1)) (l || ((j : Int) + 1 == 4))).2 < (planAt (planP n) x l j).2
        · rw [planStep, if_neg hsk, if_pos hupd, ← hL] at hst
          have hupd2 : m = 0 ∨ m ≠ 0 ∧ (planP n (after x ((j : Int) + 1)) (l || ((j : Int) + 1 == 4))).2 < s := by
            rw [hb]
            by_cases h0 : (planAt (planP n) x l j).1 = []
            · left; simp [h0]
            · right; refine ⟨by simp [h0], ?_⟩
              rw [hs]; exact hupd.resolve_left h0
          cases l
          all_goals
            rcases hupd2 with hnone | ⟨hsome, hless⟩
            all_goals
              try simp only [Bool.false_or, Bool.true_or] at hless
              repeat (any_goals (
                conv => whnf
                first
                | ((with_reducible refine BIF.s (fun _ => ?_) (fun h => absurd h ?_)); rotate_left; focus (rw [decide_eq_true hless]; decide))
                | ((with_reducible refine BIF.dec ?_ ?_) <;> intro _)
                | ((exfalso; have hh := hsk2 rfl; omega))
                | ((with_reducible refine BIF.s (fun h => absurd h ?_) (fun _ => ?_)); focus (first | (simp; done) | (simp; omega)))
                | ((with_reducible refine BIF.s (fun _ => ?_) (fun h => absurd h ?_)); rotate_left; focus (first | (simp; done) | (simp; omega)))
                | ((with_reducible refine callF (g := 56) ?_ ?_); kernel_rfl; refine ⟨_, l22Do_c _ _ _ hok (by omega), ?_⟩; intro w4 e4; have z4 := cutLe e4)
                | ((with_reducible refine callS (g := 42) ?_ ?_); kernel_rfl; refine ⟨_, ih _ (by omega) _ _ _ (after_ok hok _), ?_⟩; intro r5 w5 e5 h5; have z6 := cutLe e5; obtain ⟨s5, rfl, o5⟩ := h5; obtain ⟨b5, d5, rfl, q5, p5⟩ := o5.rowx)
                | ((with_reducible refine BIF.beq (fun h => absurd h ?_) (fun _ => ?_)); focus omega)
                | ((with_reducible refine BIF.beq (fun _ => ?_) (fun h => absurd h ?_)); rotate_left; focus omega)
                | ((with_reducible refine bsS elemI [.int .i64 ((j : Int) + 1)] ?_ ?_ ?_ ?_ ?_); (focus rfl); (focus rfl); (focus (intro v hv; simp at hv; subst hv; rfl)); (focus omega); intro w9 e9 oB; have z9 := cutLe e9; (try replace oC := oC.e0 e9))
                | ((with_reducible refine BIF.dec ?_ ?_) <;> intro _)
                | ((with_reducible refine BIF.s ?_ ?_) <;> intro _)
                | (with_reducible refine NEXTK.normal ?_)
                | (with_reducible refine NEXTK.ret ?_)
                | (with_reducible refine NEXTK.exit ?_)
                | (with_reducible refine SEQ.plain ?_)
                | (with_reducible refine hK _ _ ?_)
                | ((with_reducible refine RUNL.agg (fun _ => ?_) ?_); (focus kernel_rfl))
                | (with_reducible refine RUNL.run ?_)
                | ((with_reducible refine AR.ok ?_ ?_); exact ⟨by first | omega | (dsimp only; omega), by first | omega | (dsimp only; omega)⟩)
                | (with_reducible refine AR.wr ?_)
                | ((with_reducible intro w3 e3); try have z3 := cutLe e3)
                | ((with_reducible intro h3); have h4 := Nat.le_of_lt h3; clear h4)))
              all_goals
                conv => whnf
                have oL := fun k h => oB.block (k := k) h
                refine apS elemI oB (q5.e0 e9) (by simp) (by intro l hl; obtain ⟨x, -, rfl⟩ := List.mem_map.1 hl; rfl) ⟨by simp; omega, by simp; omega⟩ ⟨by show w.heap.size ≤ _; omega, by omega⟩ ⟨fun h => by have := (oL _ h).1; dsimp only at this; omega, trivial⟩ (fun v2 w2 x2 o2 => ?_)
                have z2 := cutLe x2
                replace o2 : Own w2 w.heap.size 3 1 v2 (L.1.map encI) := by rw [hst]; exact o2.lo (by omega)
                obtain ⟨b2, d2, rfl, q2, p2⟩ := o2.rowx
                repeat (any_goals (
                  conv => whnf
                  first
                  | ((with_reducible refine BIF.dec ?_ ?_) <;> intro _)
                  | ((with_reducible refine BIF.s ?_ ?_) <;> intro _)
                  | (with_reducible refine NEXTK.normal ?_)
                  | (with_reducible refine NEXTK.ret ?_)
                  | (with_reducible refine NEXTK.exit ?_)
                  | (with_reducible refine SEQ.plain ?_)
                  | (with_reducible refine hK _ _ ?_)
                  | ((with_reducible refine RUNL.agg (fun _ => ?_) ?_); (focus kernel_rfl))
                  | (with_reducible refine RUNL.run ?_)
                  | ((with_reducible refine AR.ok ?_ ?_); exact ⟨by first | omega | (dsimp only; omega), by first | omega | (dsimp only; omega)⟩)
                  | (with_reducible refine AR.wr ?_)
                  | ((with_reducible intro w3 e3); try have z3 := cutLe e3)
                  | ((with_reducible intro h3); have h4 := Nat.le_of_lt h3; clear h4)))
                refine ⟨(j + 1, (b2, _, d2), _), rfl, ⟨by simp [lk, Nat.beq], rfl, rfl, trivial⟩, rfl, rfl, ⟨by simp only; omega, by show w.heap.size < w2.heap.size; omega, ?_, by simp only; rw [← hL], by rw [← hL]; exact o2⟩, by simp only; omega⟩
                simp only
                rw [← hL, hst]; rfl
        · rw [planStep, if_neg hsk, if_neg hupd, ← hL] at hst
          have hsome : m ≠ 0 := by
            rw [hb]; intro h; exact hupd (.inl (List.eq_nil_of_length_eq_zero h))
          have hless : ¬ (planP n (after x ((j : Int) + 1)) (l || ((j : Int) + 1 == 4))).2 < s := by rw [hs]; exact fun h => hupd (.inr h)
          cases l
          all_goals
            simp only [Bool.false_or, Bool.true_or] at hless
            repeat (any_goals (
              conv => whnf
              first
              | ((with_reducible refine BIF.s (fun h => absurd h ?_) (fun _ => ?_)); focus (rw [decide_eq_false hless]; decide))
              | ((with_reducible refine BIF.dec ?_ ?_) <;> intro _)
              | ((exfalso; have hh := hsk2 rfl; omega))
              | ((with_reducible refine BIF.s (fun h => absurd h ?_) (fun _ => ?_)); focus (first | (simp; done) | (simp; omega)))
              | ((with_reducible refine BIF.s (fun _ => ?_) (fun h => absurd h ?_)); rotate_left; focus (first | (simp; done) | (simp; omega)))
              | ((with_reducible refine callF (g := 56) ?_ ?_); kernel_rfl; refine ⟨_, l22Do_c _ _ _ hok (by omega), ?_⟩; intro w4 e4; have z4 := cutLe e4)
              | ((with_reducible refine callS (g := 42) ?_ ?_); kernel_rfl; refine ⟨_, ih _ (by omega) _ _ _ (after_ok hok _), ?_⟩; intro r5 w5 e5 h5; have z6 := cutLe e5; obtain ⟨s5, rfl, o5⟩ := h5; obtain ⟨b5, d5, rfl, q5, p5⟩ := o5.rowx)
              | ((with_reducible refine BIF.beq (fun h => absurd h ?_) (fun _ => ?_)); focus omega)
              | ((with_reducible refine BIF.dec ?_ ?_) <;> intro _)
              | ((with_reducible refine BIF.s ?_ ?_) <;> intro _)
              | (with_reducible refine NEXTK.normal ?_)
              | (with_reducible refine NEXTK.ret ?_)
              | (with_reducible refine NEXTK.exit ?_)
              | (with_reducible refine SEQ.plain ?_)
              | (with_reducible refine hK _ _ ?_)
              | ((with_reducible refine RUNL.agg (fun _ => ?_) ?_); (focus kernel_rfl))
              | (with_reducible refine RUNL.run ?_)
              | ((with_reducible refine AR.ok ?_ ?_); exact ⟨by first | omega | (dsimp only; omega), by first | omega | (dsimp only; omega)⟩)
              | (with_reducible refine AR.wr ?_)
              | ((with_reducible intro w3 e3); try have z3 := cutLe e3)
              | ((with_reducible intro h3); have h4 := Nat.le_of_lt h3; clear h4)))
            all_goals
              refine ⟨(j + 1, (b, m, d), s), rfl, ⟨by simp [lk, Nat.beq], rfl, rfl, trivial⟩, rfl, rfl, ⟨by simp only; omega, by show w.heap.size < w5.heap.size; omega, ?_, ?_, ?_⟩, by simp only; omega⟩
              · simp only
                rw [← hL, hst, hs]
              · simp only
                rw [← hL, hst, hb]
              · simp only
                rw [← hL, hst]; exact (hown.e0 e4).e0 e5
    · obtain rfl : j = 4 := by omega
      repeat (any_goals (
        conv => whnf
        first
        | ((with_reducible refine BIF.dec ?_ ?_) <;> intro _)
        | ((with_reducible refine BIF.s ?_ ?_) <;> intro _)
        | (with_reducible refine NEXTK.normal ?_)
        | (with_reducible refine NEXTK.ret ?_)
        | (with_reducible refine NEXTK.exit ?_)
        | (with_reducible refine SEQ.plain ?_)
        | (with_reducible refine hK _ _ ?_)
        | ((with_reducible refine RUNL.agg (fun _ => ?_) ?_); (focus kernel_rfl))
        | (with_reducible refine RUNL.run ?_)
        | ((with_reducible refine AR.ok ?_ ?_); exact ⟨by first | omega | (dsimp only; omega), by first | omega | (dsimp only; omega)⟩)
        | (with_reducible refine AR.wr ?_)
        | ((with_reducible intro w3 e3); try have z3 := cutLe e3)
        | ((with_reducible intro h3); have h4 := Nat.le_of_lt h3; clear h4)))
      intro hx'
      subst hs
      exact ⟨_, rfl, hx', _, rfl, hown⟩

end Go.Proofs.Ytgopcppegjhmiaa

/- FinishOrder, and clones. -/
import Derived.Test.YtlhlbgnhnkfmgaaRows
import Derived.Test.YtlhlbgnhnkfmgaaOrders7
namespace Go.Proofs.Ytlhlbgnhnkfmgaa
open Go Go.X Go.Proofs Go.ChangeShapes Go.WideShapes Go.ChangeAt Go.RowKit
open Go.ChangeMaps (open_string shut_string)
set_option maxHeartbeats 1000000
set_option maxRecDepth 20000
set_option linter.unusedVariables false
set_option linter.unusedSimpArgs false
theorem CloneOrd_c (a : Option Addr) (n c : Nat) (xs : List Ord) (w : World) (hr : Row w a 5 (xs.map encOrd)) (hn : xs.length = n) (hm : n ≤ 1048577) :
    Calls Try.prog 29 #[.slice a n c] w fun e w' => ∃ r, e = .returned r ∧ E0 w w' ∧ Own w' w.heap.size 54 5 r (xs.map encOrd) := by
  refine enterK Non 8 Try.func29 rfl rfl rfl fun K hK => ?_
  repeat (any_goals (
    conv => whnf
    first
    | ((with_reducible refine BIF.dec ?_ ?_) <;> intro _)
    | ((with_reducible refine BIF.s ?_ ?_) <;> intro _)
    | (with_reducible refine NEXTK.normal ?_)
    | (with_reducible refine NEXTK.ret ?_)
    | (with_reducible refine NEXTK.exit ?_)
    | (with_reducible refine SEQ.plain ?_)
    | (with_reducible refine hK _ _ ?_)
    | ((with_reducible refine RUNL.agg (fun _ => ?_) ?_); (focus kernel_rfl))
    | (with_reducible refine RUNL.run ?_)
    | ((with_reducible refine AR.ok ?_ ?_); exact ⟨by first | omega | (dsimp only; omega), by first | omega | (dsimp only; omega)⟩)
    | (with_reducible refine AR.wr ?_)
    | ((with_reducible intro w3 e3); try have z3 := cutLe e3)
    | ((with_reducible intro h3); have h4 := Nat.le_of_lt h3; clear h4)))
  · intro hx
    rename_i h
    have : xs = [] := by
      cases a with
      | none =>
        cases xs with
        | nil => rfl
        | cons x r => exact absurd (hr.isSome (by simp)) (by simp)
      | some p => simp at h
    subst this
    exact ⟨_, rfl, hx, Own.nil _ _ _ _⟩
  · refine bsS elemOrd [] rfl rfl (by simp) (by omega) (fun w1 e1 o1 => ?_)
    conv => whnf
    repeat (first | ((with_reducible refine NEXTK.normal ?_); conv => whnf) | ((with_reducible refine NEXTK.exit ?_); conv => whnf) | ((with_reducible refine NEXTK.ret ?_); conv => whnf) | ((with_reducible refine SEQ.plain ?_); conv => whnf) | ((with_reducible refine AR.ok ?_ ?_); exact ⟨by omega, by omega⟩; conv => whnf))
    refine apS elemOrd o1 (hr.e0 e1) (by simpa using hn) (by intro l hl; obtain ⟨x, -, rfl⟩ := List.mem_map.1 hl; rfl) ⟨by simp; omega, by simp; omega⟩ ⟨Nat.le_refl _, e1.size⟩ trivial (fun v2 w2 x2 o2 => ?_)
    replace o2 : Own w2 w.heap.size 54 5 v2 (xs.map encOrd) := by simpa using o2
    obtain ⟨b2, d2, rfl, q2, p2⟩ := o2.rowx
    repeat (any_goals (
      conv => whnf
      first
      | ((with_reducible refine BIF.dec ?_ ?_) <;> intro _)
      | ((with_reducible refine BIF.s ?_ ?_) <;> intro _)
      | (with_reducible refine NEXTK.normal ?_)
      | (with_reducible refine NEXTK.ret ?_)
      | (with_reducible refine NEXTK.exit ?_)
      | (with_reducible refine SEQ.plain ?_)
      | (with_reducible refine hK _ _ ?_)
      | ((with_reducible refine RUNL.agg (fun _ => ?_) ?_); (focus kernel_rfl))
      | (with_reducible refine RUNL.run ?_)
      | ((with_reducible refine AR.ok ?_ ?_); exact ⟨by first | omega | (dsimp only; omega), by first | omega | (dsimp only; omega)⟩)
      | (with_reducible refine AR.wr ?_)
      | ((with_reducible intro w3 e3); try have z3 := cutLe e3)
      | ((with_reducible intro h3); have h4 := Nat.le_of_lt h3; clear h4)))
    intro hx
    exact ⟨_, rfl, hx, o2⟩
def setR (x : Ord) (day : Int) : Ord := ⟨x.fId, x.fReader, x.fPages, x.fPlaced, day⟩
def finishL (xs : List Ord) (k : Nat) (day : Int) : List Ord := xs.set k (setR (xs.getD k default) day)
def finishP (xs : List Ord) (id day : Int) : List Ord × Bool :=
  if waitAt xs id && inB day 0 4000 && areO (finishL xs (idAt xs id).toNat day) then (finishL xs (idAt xs id).toNat day, true) else ([], false)
theorem finishP_bad {xs : List Ord} {id day : Int} (h : waitAt xs id = false ∨ inB day 0 4000 = false) : finishP xs id day = ([], false) := by
  unfold finishP
  rcases h with h | h <;> simp [h]
theorem finishL_eq {xs : List Ord} {k : Nat} {x : Ord} (day : Int) (hx : xs[k]? = some x) : finishL xs k day = xs.set k (setR x day) := by
  simp [finishL, hx]
theorem finishP_good {xs : List Ord} {id day : Int} {k : Nat} {x : Ord} (h : waitAt xs id = true) (hd : inB day 0 4000 = true) (hk : idAt xs id = k) (hx : xs[k]? = some x) :
    finishP xs id day = if areO (xs.set k (setR x day)) then (xs.set k (setR x day), true) else ([], false) := by
  unfold finishP
  simp [h, hd, hk, finishL_eq day hx]
theorem FinishOrder_c (a : Option Addr) (n c : Nat) (xs : List Ord) (id day : Int) (w : World) (hr : Row w a 5 (xs.map encOrd)) (hn : xs.length = n) (hm : n ≤ 1048577) :
    Calls Try.prog 15 #[.slice a n c, .int .i64 id, .int .i64 day] w fun e w' => ∃ r, e = .returned r ∧ E0 w w' ∧ ∃ v, r = .tuple #[v, .bool (finishP xs id day).2] ∧ Own w' w.heap.size 54 5 v ((finishP xs id day).1.map encOrd) := by
  refine enterK Non 35 Try.func15 rfl rfl rfl fun K hK => ?_
  by_cases hall : waitAt xs id = true ∧ inB day 0 4000 = true
  · obtain ⟨hw, hd⟩ := hall
    rcases idAt_spec xs id with hi | ⟨k, x, hi, hk, hx, hid⟩
    · rw [waitAt_bad (.inr hi)] at hw; cases hw
    · repeat (any_goals (
        conv => whnf
        first
        | ((with_reducible refine callF (g := 32) ?_ ?_); kernel_rfl; refine ⟨_, waitsAt_c _ _ _ xs id _ (by repeat (first | assumption | refine Row.e0 ?_ (by assumption))) hn (by omega), ?_⟩; intro w4 e4; have z4 := cutLe e4)
        | ((with_reducible refine callF (g := 38) ?_ ?_); kernel_rfl; refine ⟨_, isDay_c _ _, ?_⟩; intro w4 e4; have z4 := cutLe e4)
        | ((with_reducible refine BIF.s (fun h => absurd h ?_) (fun _ => ?_)); focus (first | (simp; done) | (simp; omega)))
        | ((with_reducible refine BIF.s (fun _ => ?_) (fun h => absurd h ?_)); rotate_left; focus (first | (simp; done) | (simp; omega)))
        | ((exfalso; simp_all; done))
        | ((with_reducible refine BIF.dec ?_ ?_) <;> intro _)
        | ((with_reducible refine BIF.s ?_ ?_) <;> intro _)
        | (with_reducible refine NEXTK.normal ?_)
        | (with_reducible refine NEXTK.ret ?_)
        | (with_reducible refine NEXTK.exit ?_)
        | (with_reducible refine SEQ.plain ?_)
        | (with_reducible refine hK _ _ ?_)
        | ((with_reducible refine RUNL.agg (fun _ => ?_) ?_); (focus kernel_rfl))
        | (with_reducible refine RUNL.run ?_)
        | ((with_reducible refine AR.ok ?_ ?_); exact ⟨by first | omega | (dsimp only; omega), by first | omega | (dsimp only; omega)⟩)
        | (with_reducible refine AR.wr ?_)
        | ((with_reducible intro w3 e3); try have z3 := cutLe e3)
        | ((with_reducible intro h3); have h4 := Nat.le_of_lt h3; clear h4)))
      refine callY (g := 29) (by kernel_rfl) ⟨_, fun x => CloneOrd_c _ _ _ xs _ (hr.ext x (mAddr_Non _)) hn (by omega), fun r w1 e1 o1 => ?_⟩
      have z1' := cutLe e1
      obtain ⟨b1, d1, rfl, q1, p1⟩ := o1.rowx
      have his := q1.isSome (by simp; omega)
      repeat (any_goals (
        conv => whnf
        first
        | ((with_reducible refine OBL.mk ?_ (fun _ => ?_)); exact ⟨by first | omega | (dsimp only; omega), by first | omega | (dsimp only; omega), his⟩)
        | ((with_reducible refine BIF.dec ?_ ?_) <;> intro _)
        | ((with_reducible refine BIF.s ?_ ?_) <;> intro _)
        | (with_reducible refine NEXTK.normal ?_)
        | (with_reducible refine NEXTK.ret ?_)
        | (with_reducible refine NEXTK.exit ?_)
        | (with_reducible refine SEQ.plain ?_)
        | (with_reducible refine hK _ _ ?_)
        | ((with_reducible refine RUNL.agg (fun _ => ?_) ?_); (focus kernel_rfl))
        | (with_reducible refine RUNL.run ?_)
        | ((with_reducible refine AR.ok ?_ ?_); exact ⟨by first | omega | (dsimp only; omega), by first | omega | (dsimp only; omega)⟩)
        | (with_reducible refine AR.wr ?_)
        | ((with_reducible intro w3 e3); try have z3 := cutLe e3)
        | ((with_reducible intro h3); have h4 := Nat.le_of_lt h3; clear h4)))
      refine stS (i := _) o1 rfl rfl rfl k hi.symm (by rw [List.getElem?_map, hx]; rfl) (by decide) (by show w.heap.size ≤ _; omega) trivial (fun w5 e5 o5 => ?_)
      replace o5 : Own w5 w4.heap.size 54 5 (.slice b1 xs.length d1) ((xs.set k (setR x day)).map encOrd) := by rw [List.map_set]; exact o5
      repeat (any_goals (
        conv => whnf
        first
        | ((with_reducible refine callF (g := 22) ?_ ?_); kernel_rfl; refine ⟨_, AreOrders_c _ _ _ (xs.set k (setR x day)) _ o5.row.1 (by simp) (by omega), ?_⟩; intro w4 e4; have z4 := cutLe e4)
        | ((with_reducible refine BIF.dec ?_ ?_) <;> intro _)
        | ((with_reducible refine BIF.s ?_ ?_) <;> intro _)
        | (with_reducible refine NEXTK.normal ?_)
        | (with_reducible refine NEXTK.ret ?_)
        | (with_reducible refine NEXTK.exit ?_)
        | (with_reducible refine SEQ.plain ?_)
        | (with_reducible refine hK _ _ ?_)
        | ((with_reducible refine RUNL.agg (fun _ => ?_) ?_); (focus kernel_rfl))
        | (with_reducible refine RUNL.run ?_)
        | ((with_reducible refine AR.ok ?_ ?_); exact ⟨by first | omega | (dsimp only; omega), by first | omega | (dsimp only; omega)⟩)
        | (with_reducible refine AR.wr ?_)
        | ((with_reducible intro w3 e3); try have z3 := cutLe e3)
        | ((with_reducible intro h3); have h4 := Nat.le_of_lt h3; clear h4)))
      · intro hx'
        have hf : finishP xs id day = ([], false) := by rw [finishP_good hw hd hi hx]; simp_all
        rw [hf]; exact ⟨_, rfl, hx', _, rfl, Own.nil _ _ _ _⟩
      · intro hx'
        have hf : finishP xs id day = (xs.set k (setR x day), true) := by rw [finishP_good hw hd hi hx]; simp_all
        rw [hf]; exact ⟨_, rfl, hx', _, rfl, by simpa using (o5.e0 e4).lo (by omega)⟩
  · have hf : finishP xs id day = ([], false) := finishP_bad (by by_cases h : waitAt xs id = true <;> simp_all)
    repeat (any_goals (
      conv => whnf
      first
      | ((with_reducible refine callF (g := 32) ?_ ?_); kernel_rfl; refine ⟨_, waitsAt_c _ _ _ xs id _ (by repeat (first | assumption | refine Row.e0 ?_ (by assumption))) hn (by omega), ?_⟩; intro w4 e4; have z4 := cutLe e4)
      | ((with_reducible refine callF (g := 38) ?_ ?_); kernel_rfl; refine ⟨_, isDay_c _ _, ?_⟩; intro w4 e4; have z4 := cutLe e4)
      | ((exfalso; simp_all; done))
      | ((with_reducible refine BIF.dec ?_ ?_) <;> intro _)
      | ((with_reducible refine BIF.s ?_ ?_) <;> intro _)
      | (with_reducible refine NEXTK.normal ?_)
      | (with_reducible refine NEXTK.ret ?_)
      | (with_reducible refine NEXTK.exit ?_)
      | (with_reducible refine SEQ.plain ?_)
      | (with_reducible refine hK _ _ ?_)
      | ((with_reducible refine RUNL.agg (fun _ => ?_) ?_); (focus kernel_rfl))
      | (with_reducible refine RUNL.run ?_)
      | ((with_reducible refine AR.ok ?_ ?_); exact ⟨by first | omega | (dsimp only; omega), by first | omega | (dsimp only; omega)⟩)
      | (with_reducible refine AR.wr ?_)
      | ((with_reducible intro w3 e3); try have z3 := cutLe e3)
      | ((with_reducible intro h3); have h4 := Nat.le_of_lt h3; clear h4)))
    all_goals
      intro hx'
      rw [hf]
      exact ⟨_, rfl, hx', _, rfl, Own.nil _ _ _ _⟩
theorem FinishOrderS_c (a : Option Addr) (n c : Nat) (xs : List Ord) (id day : Int) (w : World) (hr : Row w a 5 (xs.map encOrd)) (hn : xs.length = n) (hm : n ≤ 1048577) :
    Calls Try.prog 16 #[.slice a n c, .int .i64 id, .int .i64 day] w fun e w' => ∃ r, e = .returned r ∧ E0 w w' ∧ ∃ v, r = .tuple #[v, .bool (finishP xs id day).2] ∧ Own w' w.heap.size 54 5 v ((finishP xs id day).1.map encOrd) := by
  refine enterK Non 53 Try.func16 rfl rfl rfl fun K hK => ?_
  rcases idAt_spec xs id with hi | ⟨k, x, hi, hk, hx, hid⟩
  · have hf : finishP xs id day = ([], false) := finishP_bad (.inl (waitAt_bad (.inr hi)))
    repeat (any_goals (
      conv => whnf
      first
      | ((with_reducible refine callF (g := 39) ?_ ?_); kernel_rfl; refine ⟨_, l28Find_c _ _ _ xs id _ (by repeat (first | assumption | refine Row.e0 ?_ (by assumption))) hn (by omega), ?_⟩; intro w4 e4; have z4 := cutLe e4)
      | ((with_reducible refine callF (g := 30) ?_ ?_); kernel_rfl; refine ⟨_, l28Good_c _ _ _ xs _ (by repeat (first | assumption | refine Row.e0 ?_ (by assumption))) hn (by omega), ?_⟩; intro w4 e4; have z4 := cutLe e4)
      | ((with_reducible refine callF (g := 40) ?_ ?_); kernel_rfl; refine ⟨_, l2Day_c _ _, ?_⟩; intro w4 e4; have z4 := cutLe e4)
      | ((exfalso; omega))
      | ((with_reducible refine bsS elemOrd [] rfl rfl (by simp) (by omega) (fun w9 e9 o9 => ?_)); have z9 := cutLe e9)
      | ((with_reducible refine BIF.dec ?_ ?_) <;> intro _)
      | ((with_reducible refine BIF.s ?_ ?_) <;> intro _)
      | (with_reducible refine NEXTK.normal ?_)
      | (with_reducible refine NEXTK.ret ?_)
      | (with_reducible refine NEXTK.exit ?_)
      | (with_reducible refine SEQ.plain ?_)
      | (with_reducible refine hK _ _ ?_)
      | ((with_reducible refine RUNL.agg (fun _ => ?_) ?_); (focus kernel_rfl))
      | (with_reducible refine RUNL.run ?_)
      | ((with_reducible refine AR.ok ?_ ?_); exact ⟨by first | omega | (dsimp only; omega), by first | omega | (dsimp only; omega)⟩)
      | (with_reducible refine AR.wr ?_)
      | ((with_reducible intro w3 e3); try have z3 := cutLe e3)
      | ((with_reducible intro h3); have h4 := Nat.le_of_lt h3; clear h4)))
    all_goals
      intro hx'
      rw [hf]
      exact ⟨_, rfl, hx', _, rfl, o9.lo (by omega)⟩
  · have his := hr.isSome (by simp; omega)
    by_cases hall : waitAt xs id = true ∧ inB day 0 4000 = true
    · obtain ⟨hw, hd⟩ := hall
      have ho : areO xs = true := by
        cases ho : areO xs with
        | false => rw [waitAt_bad (.inl ho)] at hw; cases hw
        | true => rfl
      have hw2 := hw
      rw [waitAt_good ho hi hx] at hw2
      have hw3 : x.fReady = -1 := by simpa using hw2
      repeat (any_goals (
        conv => whnf
        first
        | ((with_reducible refine callF (g := 39) ?_ ?_); kernel_rfl; refine ⟨_, l28Find_c _ _ _ xs id _ (by repeat (first | assumption | refine Row.e0 ?_ (by assumption))) hn (by omega), ?_⟩; intro w4 e4; have z4 := cutLe e4)
        | ((with_reducible refine callF (g := 30) ?_ ?_); kernel_rfl; refine ⟨_, l28Good_c _ _ _ xs _ (by repeat (first | assumption | refine Row.e0 ?_ (by assumption))) hn (by omega), ?_⟩; intro w4 e4; have z4 := cutLe e4)
        | ((with_reducible refine callF (g := 40) ?_ ?_); kernel_rfl; refine ⟨_, l2Day_c _ _, ?_⟩; intro w4 e4; have z4 := cutLe e4)
        | ((with_reducible refine OBL.mk ?_ (fun _ => ?_)); exact ⟨by first | omega | (dsimp only; omega), by first | omega | (dsimp only; omega), his⟩)
        | ((with_reducible refine ELD.at (k) hr ?_ ?_ ?_ (fun x' hx' => ?_)); exact mAddr_Non _; (first | rfl | omega); exact hk; obtain rfl : x = x' := by (rw [hx] at hx'; exact Option.some.inj hx'))
        | ((with_reducible refine BIF.s (fun h => absurd h ?_) (fun _ => ?_)); focus (first | (simp; done) | (simp; omega)))
        | ((with_reducible refine BIF.s (fun _ => ?_) (fun h => absurd h ?_)); rotate_left; focus (first | (simp; done) | (simp; omega)))
        | ((exfalso; simp_all; done))
        | ((exfalso; omega))
        | ((with_reducible refine BIF.dec ?_ ?_) <;> intro _)
        | ((with_reducible refine BIF.s ?_ ?_) <;> intro _)
        | (with_reducible refine NEXTK.normal ?_)
        | (with_reducible refine NEXTK.ret ?_)
        | (with_reducible refine NEXTK.exit ?_)
        | (with_reducible refine SEQ.plain ?_)
        | (with_reducible refine hK _ _ ?_)
        | ((with_reducible refine RUNL.agg (fun _ => ?_) ?_); (focus kernel_rfl))
        | (with_reducible refine RUNL.run ?_)
        | ((with_reducible refine AR.ok ?_ ?_); exact ⟨by first | omega | (dsimp only; omega), by first | omega | (dsimp only; omega)⟩)
        | (with_reducible refine AR.wr ?_)
        | ((with_reducible intro w3 e3); try have z3 := cutLe e3)
        | ((with_reducible intro h3); have h4 := Nat.le_of_lt h3; clear h4)))
      refine bsS elemOrd [] rfl rfl (by simp) (by omega) (fun w1 e1 o1 => ?_)
      have z1 := cutLe e1
      conv => whnf
      repeat (first | ((with_reducible refine NEXTK.normal ?_); conv => whnf) | ((with_reducible refine NEXTK.exit ?_); conv => whnf) | ((with_reducible refine NEXTK.ret ?_); conv => whnf) | ((with_reducible refine SEQ.plain ?_); conv => whnf) | ((with_reducible refine AR.ok ?_ ?_); exact ⟨by omega, by omega⟩; conv => whnf))
      refine apS (ns := xs.map encOrd) elemOrd o1 (by repeat (first | assumption | refine Row.e0 ?_ (by assumption))) (by simpa using hn) (by intro l hl; obtain ⟨x, -, rfl⟩ := List.mem_map.1 hl; rfl) ⟨by simp; omega, by simp; omega⟩ ⟨(by show w.heap.size ≤ _; omega), by omega⟩ trivial (fun v2 w2 x2 o2 => ?_)
      have z2 := cutLe x2
      replace o2 : Own w2 w4.heap.size 54 5 v2 (xs.map encOrd) := by simpa using o2
      obtain ⟨b2, d2, rfl, q2, p2⟩ := o2.rowx
      have his2 := q2.isSome (by simp; omega)
      have oL : ∀ k, (Value.slice b2 xs.length d2).ownBlock = some k → w4.heap.size ≤ k ∧ k < w2.heap.size := fun k h => o2.block h
      repeat (any_goals (
        conv => whnf
        first
        | ((with_reducible refine OBL.mk ?_ (fun _ => ?_)); exact ⟨by first | omega | (dsimp only; omega), by first | omega | (dsimp only; omega), his2⟩)
        | ((with_reducible refine ELD.atNow (enc := encOrd) (xs := xs) k q2 ?_ ?_ (fun x' hx' => ?_)); omega; omega; obtain rfl : x = x' := by (rw [hx] at hx'; exact Option.some.inj hx'))
        | ((with_reducible intro w3 e3); have z3 := cutLe e3; replace o2 := o2.ext e3 (by first | exact fun _ _ h => h | (intro k hk h; have hh := oL k hk; simp only [bk] at h; omega)))
        | ((with_reducible refine BIF.dec ?_ ?_) <;> intro _)
        | ((with_reducible refine BIF.s ?_ ?_) <;> intro _)
        | (with_reducible refine NEXTK.normal ?_)
        | (with_reducible refine NEXTK.ret ?_)
        | (with_reducible refine NEXTK.exit ?_)
        | (with_reducible refine SEQ.plain ?_)
        | (with_reducible refine hK _ _ ?_)
        | ((with_reducible refine RUNL.agg (fun _ => ?_) ?_); (focus kernel_rfl))
        | (with_reducible refine RUNL.run ?_)
        | ((with_reducible refine AR.ok ?_ ?_); exact ⟨by first | omega | (dsimp only; omega), by first | omega | (dsimp only; omega)⟩)
        | (with_reducible refine AR.wr ?_)
        | ((with_reducible intro w3 e3); try have z3 := cutLe e3)
        | ((with_reducible intro h3); have h4 := Nat.le_of_lt h3; clear h4)))
      refine stS (i := _) o2 rfl rfl rfl k hi.symm (by rw [List.getElem?_map, hx]; rfl) (by decide) (by show w.heap.size ≤ _; omega) ⟨fun h => by have := oL _ h; simp only [bk] at this; omega, trivial⟩ (fun w5 e5 o5 => ?_)
      replace o5 : Own w5 w4.heap.size 54 5 (.slice b2 xs.length d2) ((xs.set k (setR x day)).map encOrd) := by rw [List.map_set]; exact o5
      have z5 := cutLe e5
      repeat (any_goals (
        conv => whnf
        first
        | ((with_reducible refine callF (g := 30) ?_ ?_); kernel_rfl; refine ⟨_, l28Good_c _ _ _ (xs.set k (setR x day)) _ o5.row.1 (by simp) (by omega), ?_⟩; intro w4 e4; have z4 := cutLe e4)
        | ((with_reducible refine BIF.dec ?_ ?_) <;> intro _)
        | ((with_reducible refine BIF.s ?_ ?_) <;> intro _)
        | (with_reducible refine NEXTK.normal ?_)
        | (with_reducible refine NEXTK.ret ?_)
        | (with_reducible refine NEXTK.exit ?_)
        | (with_reducible refine SEQ.plain ?_)
        | (with_reducible refine hK _ _ ?_)
        | ((with_reducible refine RUNL.agg (fun _ => ?_) ?_); (focus kernel_rfl))
        | (with_reducible refine RUNL.run ?_)
        | ((with_reducible refine AR.ok ?_ ?_); exact ⟨by first | omega | (dsimp only; omega), by first | omega | (dsimp only; omega)⟩)
        | (with_reducible refine AR.wr ?_)
        | ((with_reducible intro w3 e3); try have z3 := cutLe e3)
        | ((with_reducible intro h3); have h4 := Nat.le_of_lt h3; clear h4)))
      · refine bsS elemOrd [] rfl rfl (by simp) (by omega) (fun w9 e9 o9 => ?_)
        have z9 := cutLe e9
        repeat (any_goals (
          conv => whnf
          first
          | ((with_reducible refine BIF.dec ?_ ?_) <;> intro _)
          | ((with_reducible refine BIF.s ?_ ?_) <;> intro _)
          | (with_reducible refine NEXTK.normal ?_)
          | (with_reducible refine NEXTK.ret ?_)
          | (with_reducible refine NEXTK.exit ?_)
          | (with_reducible refine SEQ.plain ?_)
          | (with_reducible refine hK _ _ ?_)
          | ((with_reducible refine RUNL.agg (fun _ => ?_) ?_); (focus kernel_rfl))
          | (with_reducible refine RUNL.run ?_)
          | ((with_reducible refine AR.ok ?_ ?_); exact ⟨by first | omega | (dsimp only; omega), by first | omega | (dsimp only; omega)⟩)
          | (with_reducible refine AR.wr ?_)
          | ((with_reducible intro w3 e3); try have z3 := cutLe e3)
          | ((with_reducible intro h3); have h4 := Nat.le_of_lt h3; clear h4)))
        intro hx'
        have hf : finishP xs id day = ([], false) := by rw [finishP_good hw hd hi hx]; simp_all
        rw [hf]; exact ⟨_, rfl, hx', _, rfl, o9.lo (by omega)⟩
      · intro hx'
        have hf : finishP xs id day = (xs.set k (setR x day), true) := by rw [finishP_good hw hd hi hx]; simp_all
        rw [hf]; exact ⟨_, rfl, hx', _, rfl, by simpa using (o5.e0 e4).lo (by omega)⟩
    · have hf : finishP xs id day = ([], false) := by
        refine finishP_bad ?_
        by_cases h : waitAt xs id = true <;> simp_all
      have hw : areO xs = true → x.fReady = -1 → waitAt xs id = true := fun h h' => by rw [waitAt_good h hi hx]; simp [h']
      repeat (any_goals (
        conv => whnf
        first
        | ((with_reducible refine callF (g := 39) ?_ ?_); kernel_rfl; refine ⟨_, l28Find_c _ _ _ xs id _ (by repeat (first | assumption | refine Row.e0 ?_ (by assumption))) hn (by omega), ?_⟩; intro w4 e4; have z4 := cutLe e4)
        | ((with_reducible refine callF (g := 30) ?_ ?_); kernel_rfl; refine ⟨_, l28Good_c _ _ _ xs _ (by repeat (first | assumption | refine Row.e0 ?_ (by assumption))) hn (by omega), ?_⟩; intro w4 e4; have z4 := cutLe e4)
        | ((with_reducible refine callF (g := 40) ?_ ?_); kernel_rfl; refine ⟨_, l2Day_c _ _, ?_⟩; intro w4 e4; have z4 := cutLe e4)
        | ((with_reducible refine OBL.mk ?_ (fun _ => ?_)); exact ⟨by first | omega | (dsimp only; omega), by first | omega | (dsimp only; omega), his⟩)
        | ((with_reducible refine ELD.at (k) hr ?_ ?_ ?_ (fun x' hx' => ?_)); exact mAddr_Non _; (first | rfl | omega); exact hk; obtain rfl : x = x' := by (rw [hx] at hx'; exact Option.some.inj hx'))
        | ((with_reducible refine BIF.s (fun h => absurd h ?_) (fun _ => ?_)); focus (first | (simp; done) | (simp; omega)))
        | ((with_reducible refine BIF.s (fun _ => ?_) (fun h => absurd h ?_)); rotate_left; focus (first | (simp; done) | (simp; omega)))
        | ((exfalso; simp_all; done))
        | ((with_reducible refine bsS elemOrd [] rfl rfl (by simp) (by omega) (fun w9 e9 o9 => ?_)); have z9 := cutLe e9)
        | ((with_reducible refine BIF.dec ?_ ?_) <;> intro _)
        | ((with_reducible refine BIF.s ?_ ?_) <;> intro _)
        | (with_reducible refine NEXTK.normal ?_)
        | (with_reducible refine NEXTK.ret ?_)
        | (with_reducible refine NEXTK.exit ?_)
        | (with_reducible refine SEQ.plain ?_)
        | (with_reducible refine hK _ _ ?_)
        | ((with_reducible refine RUNL.agg (fun _ => ?_) ?_); (focus kernel_rfl))
        | (with_reducible refine RUNL.run ?_)
        | ((with_reducible refine AR.ok ?_ ?_); exact ⟨by first | omega | (dsimp only; omega), by first | omega | (dsimp only; omega)⟩)
        | (with_reducible refine AR.wr ?_)
        | ((with_reducible intro w3 e3); try have z3 := cutLe e3)
        | ((with_reducible intro h3); have h4 := Nat.le_of_lt h3; clear h4)))
      all_goals
        intro hx'
        rw [hf]
        exact ⟨_, rfl, hx', _, rfl, o9.lo (by omega)⟩

end Go.Proofs.Ytlhlbgnhnkfmgaa

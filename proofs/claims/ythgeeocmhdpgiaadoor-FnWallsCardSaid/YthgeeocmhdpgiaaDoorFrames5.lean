/- MoveFrame and TakeDown. -/
import Derived.Test.YthgeeocmhdpgiaaDoorRows
import Derived.Test.YthgeeocmhdpgiaaDoorFrames4
namespace Go.Proofs.YthgeeocmhdpgiaaDoor
open Go Go.X Go.Proofs Go.ChangeShapes Go.WideShapes Go.ChangeAt Go.RowKit
open Go.ChangeMaps (open_string shut_string)
set_option maxHeartbeats 1000000
set_option maxRecDepth 20000
set_option linter.unusedVariables false
set_option linter.unusedSimpArgs false
def setW (x : Frm) (v : Int) : Frm := ⟨x.fId, x.fWide, v, x.fFrom, x.fUntil⟩
def moveL (xs : List Frm) (k : Nat) (v : Int) : List Frm := xs.set k (setW (xs.getD k default) v)
def moveP (xs : List Frm) (id v : Int) : List Frm × Bool :=
  if areF xs && decide (0 ≤ idAt xs id) && areF (moveL xs (idAt xs id).toNat v) then (moveL xs (idAt xs id).toNat v, true) else ([], false)
theorem moveP_bad {xs : List Frm} {id v : Int} (h : areF xs = false ∨ idAt xs id = -1) : moveP xs id v = ([], false) := by
  unfold moveP
  rcases h with h | h <;> simp [h]
theorem moveL_eq {xs : List Frm} {k : Nat} {x : Frm} (v : Int) (hx : xs[k]? = some x) : moveL xs k v = xs.set k (setW x v) := by
  simp [moveL, hx]
theorem moveP_good {xs : List Frm} {id v : Int} {k : Nat} {x : Frm} (h : areF xs = true) (hk : idAt xs id = k) (hx : xs[k]? = some x) :
    moveP xs id v = if areF (xs.set k (setW x v)) = true then (xs.set k (setW x v), true) else ([], false) := by
  unfold moveP
  have hg : (xs.getD k default) = x := by simp [hx]
  simp only [h, hk, Int.toNat_natCast, moveL_eq v hx]
  simp
theorem moveP_len (xs : List Frm) (id v : Int) : (moveP xs id v).1.length ≤ xs.length := by
  unfold moveP
  split
  · simp [moveL]
  · simp
theorem MoveFrame_c (a : Option Addr) (n c : Nat) (xs : List Frm) (id v : Int) (w : World) (hr : Row w a 5 (xs.map encFrm)) (hn : xs.length = n) (hm : n ≤ 1048577) :
    Calls Tryd.prog 26 #[.slice a n c, .int .i64 id, .int .i64 v] w fun e w' => ∃ r, e = .returned r ∧ E0 w w' ∧ ∃ s, r = .tuple #[s, .bool (moveP xs id v).2] ∧ Own w' w.heap.size 26 5 s ((moveP xs id v).1.map encFrm) := by
  refine enterK Non 31 Tryd.func26 rfl rfl rfl fun K hK => ?_
  rcases idAt_spec xs id with hi | ⟨k, x, hi, hk, hx, hid⟩
  · have hf : moveP xs id v = ([], false) := moveP_bad (.inr hi)
    repeat (any_goals (
      conv => whnf
      first
      | ((with_reducible refine callF (g := 47) ?_ ?_); kernel_rfl; refine ⟨_, frameAt_c _ _ _ xs id _ (by repeat (first | assumption | refine Row.e0 ?_ (by assumption))) hn (by omega), ?_⟩; intro w4 e4; have z4 := cutLe e4)
      | ((with_reducible refine callF (g := 36) ?_ ?_); kernel_rfl; refine ⟨_, AreFrames_c _ _ _ xs _ (by repeat (first | assumption | refine Row.e0 ?_ (by assumption))) hn (by omega), ?_⟩; intro w4 e4; have z4 := cutLe e4)
      | ((exfalso; omega))
      | ((with_reducible refine BIF.dec ?_ ?_) <;> intro _)
      | ((with_reducible refine BIF.s ?_ ?_) <;> intro _)
      | (with_reducible refine NEXTK.normal ?_)
      | (with_reducible refine NEXTK.ret ?_)
      | (with_reducible refine NEXTK.exit ?_)
      | (with_reducible refine SEQ.plain ?_)
      | (with_reducible refine hK _ _ ?_)
      | ((with_reducible refine RUNL.agg (fun _ => ?_) ?_); (focus kernel_rfl))
      | (with_reducible refine RUNL.run ?_)
      | ((with_reducible refine AR.ok ?_ ?_); exact ⟨by first | omega | (dsimp only; omega), by first | omega | (dsimp only; omega)⟩)
      | (with_reducible refine AR.wr ?_)
      | ((with_reducible intro w3 e3); try have z3 := cutLe e3)
      | ((with_reducible intro h3); have h4 := Nat.le_of_lt h3; clear h4)))
    all_goals
      intro hx'
      rw [hf]
      exact ⟨_, rfl, hx', _, rfl, Own.nil _ _ _ _⟩
  · cases ho : areF xs with
    | false =>
      have hf : moveP xs id v = ([], false) := moveP_bad (.inl ho)
      repeat (any_goals (
        conv => whnf
        first
        | ((with_reducible refine callF (g := 47) ?_ ?_); kernel_rfl; refine ⟨_, frameAt_c _ _ _ xs id _ (by repeat (first | assumption | refine Row.e0 ?_ (by assumption))) hn (by omega), ?_⟩; intro w4 e4; have z4 := cutLe e4)
        | ((with_reducible refine callF (g := 36) ?_ ?_); kernel_rfl; refine ⟨_, AreFrames_c _ _ _ xs _ (by repeat (first | assumption | refine Row.e0 ?_ (by assumption))) hn (by omega), ?_⟩; intro w4 e4; have z4 := cutLe e4)
        | ((with_reducible refine BIF.s (fun h => absurd h ?_) (fun _ => ?_)); focus (first | (simp; done) | (simp; omega)))
        | ((with_reducible refine BIF.s (fun _ => ?_) (fun h => absurd h ?_)); rotate_left; focus (first | (simp; done) | (simp; omega)))
        | ((with_reducible refine BIF.dec ?_ ?_) <;> intro _)
        | ((with_reducible refine BIF.s ?_ ?_) <;> intro _)
        | (with_reducible refine NEXTK.normal ?_)
        | (with_reducible refine NEXTK.ret ?_)
        | (with_reducible refine NEXTK.exit ?_)
        | (with_reducible refine SEQ.plain ?_)
        | (with_reducible refine hK _ _ ?_)
        | ((with_reducible refine RUNL.agg (fun _ => ?_) ?_); (focus kernel_rfl))
        | (with_reducible refine RUNL.run ?_)
        | ((with_reducible refine AR.ok ?_ ?_); exact ⟨by first | omega | (dsimp only; omega), by first | omega | (dsimp only; omega)⟩)
        | (with_reducible refine AR.wr ?_)
        | ((with_reducible intro w3 e3); try have z3 := cutLe e3)
        | ((with_reducible intro h3); have h4 := Nat.le_of_lt h3; clear h4)))
      intro hx'
      rw [hf]
      exact ⟨_, rfl, hx', _, rfl, Own.nil _ _ _ _⟩
    | true =>
      have hfit := okF_spec (areF_at ho hx)
      have his0 := hr.isSome (by simp; omega)
      skip
      repeat (any_goals (
        conv => whnf
        first
        | ((with_reducible refine callF (g := 47) ?_ ?_); kernel_rfl; refine ⟨_, frameAt_c _ _ _ xs id _ (by repeat (first | assumption | refine Row.e0 ?_ (by assumption))) hn (by omega), ?_⟩; intro w4 e4; have z4 := cutLe e4)
        | ((with_reducible refine callF (g := 36) ?_ ?_); kernel_rfl; refine ⟨_, AreFrames_c _ _ _ xs _ (by repeat (first | assumption | refine Row.e0 ?_ (by assumption))) hn (by omega), ?_⟩; intro w4 e4; have z4 := cutLe e4)
        | ((with_reducible refine BIF.s (fun h => absurd h ?_) (fun _ => ?_)); focus (first | (simp; done) | (simp; omega)))
        | ((with_reducible refine BIF.s (fun _ => ?_) (fun h => absurd h ?_)); rotate_left; focus (first | (simp; done) | (simp; omega)))
        | ((exfalso; omega))
        | ((with_reducible refine BIF.dec ?_ ?_) <;> intro _)
        | ((with_reducible refine BIF.s ?_ ?_) <;> intro _)
        | (with_reducible refine NEXTK.normal ?_)
        | (with_reducible refine NEXTK.ret ?_)
        | (with_reducible refine NEXTK.exit ?_)
        | (with_reducible refine SEQ.plain ?_)
        | (with_reducible refine hK _ _ ?_)
        | ((with_reducible refine RUNL.agg (fun _ => ?_) ?_); (focus kernel_rfl))
        | (with_reducible refine RUNL.run ?_)
        | ((with_reducible refine AR.ok ?_ ?_); exact ⟨by first | omega | (dsimp only; omega), by first | omega | (dsimp only; omega)⟩)
        | (with_reducible refine AR.wr ?_)
        | ((with_reducible intro w3 e3); try have z3 := cutLe e3)
        | ((with_reducible intro h3); have h4 := Nat.le_of_lt h3; clear h4)))
      conv => whnf
      refine callY (g := 49) (by kernel_rfl) ⟨_, fun x => CloneFrm_c _ _ _ xs _ (hr.ext x (mAddr_Non _)) hn (by omega), fun r w1 e1 o1 => ?_⟩
      have z1' := cutLe e1
      obtain ⟨b1, d1, rfl, q1, p1⟩ := o1.rowx
      have his := q1.isSome (by simp; omega)
      repeat (any_goals (
        conv => whnf
        first
        | ((with_reducible refine OBL.mk ?_ (fun _ => ?_)); exact ⟨by first | omega | (dsimp only; omega), by first | omega | (dsimp only; omega), his⟩)
        | ((with_reducible refine BIF.dec ?_ ?_) <;> intro _)
        | ((with_reducible refine BIF.s ?_ ?_) <;> intro _)
        | (with_reducible refine NEXTK.normal ?_)
        | (with_reducible refine NEXTK.ret ?_)
        | (with_reducible refine NEXTK.exit ?_)
        | (with_reducible refine SEQ.plain ?_)
        | (with_reducible refine hK _ _ ?_)
        | ((with_reducible refine RUNL.agg (fun _ => ?_) ?_); (focus kernel_rfl))
        | (with_reducible refine RUNL.run ?_)
        | ((with_reducible refine AR.ok ?_ ?_); exact ⟨by first | omega | (dsimp only; omega), by first | omega | (dsimp only; omega)⟩)
        | (with_reducible refine AR.wr ?_)
        | ((with_reducible intro w3 e3); try have z3 := cutLe e3)
        | ((with_reducible intro h3); have h4 := Nat.le_of_lt h3; clear h4)))
      refine stS (i := _) o1 rfl rfl rfl k hi.symm (by rw [List.getElem?_map, hx]; rfl) (by decide) (by show w.heap.size ≤ _; omega) trivial (fun w5 e5 o5 => ?_)
      replace o5 : Own w5 w4.heap.size 26 5 (.slice b1 xs.length d1) ((xs.set k (setW x v)).map encFrm) := by rw [List.map_set]; exact o5
      repeat (any_goals (
        conv => whnf
        first
        | ((with_reducible refine callF (g := 36) ?_ ?_); kernel_rfl; refine ⟨_, AreFrames_c _ _ _ (xs.set k (setW x v)) _ o5.row.1 (by simp) (by omega), ?_⟩; intro w4 e4; have z4 := cutLe e4)
        | ((with_reducible refine BIF.dec ?_ ?_) <;> intro _)
        | ((with_reducible refine BIF.s ?_ ?_) <;> intro _)
        | (with_reducible refine NEXTK.normal ?_)
        | (with_reducible refine NEXTK.ret ?_)
        | (with_reducible refine NEXTK.exit ?_)
        | (with_reducible refine SEQ.plain ?_)
        | (with_reducible refine hK _ _ ?_)
        | ((with_reducible refine RUNL.agg (fun _ => ?_) ?_); (focus kernel_rfl))
        | (with_reducible refine RUNL.run ?_)
        | ((with_reducible refine AR.ok ?_ ?_); exact ⟨by first | omega | (dsimp only; omega), by first | omega | (dsimp only; omega)⟩)
        | (with_reducible refine AR.wr ?_)
        | ((with_reducible intro w3 e3); try have z3 := cutLe e3)
        | ((with_reducible intro h3); have h4 := Nat.le_of_lt h3; clear h4)))
      · intro hx'
        have hf : moveP xs id v = ([], false) := by rw [moveP_good ho hi hx]; simp_all
        rw [hf]; exact ⟨_, rfl, hx', _, rfl, Own.nil _ _ _ _⟩
      · intro hx'
        have hf : moveP xs id v = (xs.set k (setW x v), true) := by rw [moveP_good ho hi hx]; simp_all
        rw [hf]; exact ⟨_, rfl, hx', _, rfl, by simpa using (o5.e0 e4).lo (by omega)⟩
theorem MoveFrameS_c (a : Option Addr) (n c : Nat) (xs : List Frm) (id v : Int) (w : World) (hr : Row w a 5 (xs.map encFrm)) (hn : xs.length = n) (hm : n ≤ 1048577) :
    Calls Tryd.prog 27 #[.slice a n c, .int .i64 id, .int .i64 v] w fun e w' => ∃ r, e = .returned r ∧ E0 w w' ∧ ∃ s, r = .tuple #[s, .bool (moveP xs id v).2] ∧ Own w' w.heap.size 26 5 s ((moveP xs id v).1.map encFrm) := by
  refine enterK Non 40 Tryd.func27 rfl rfl rfl fun K hK => ?_
  rcases idAt_spec xs id with hi | ⟨k, x, hi, hk, hx, hid⟩
  · have hf : moveP xs id v = ([], false) := moveP_bad (.inr hi)
    repeat (any_goals (
      conv => whnf
      first
      | ((with_reducible refine callF (g := 50) ?_ ?_); kernel_rfl; refine ⟨_, l27Find_c _ _ _ xs id _ (by repeat (first | assumption | refine Row.e0 ?_ (by assumption))) hn (by omega), ?_⟩; intro w4 e4; have z4 := cutLe e4)
      | ((with_reducible refine callF (g := 40) ?_ ?_); kernel_rfl; refine ⟨_, l27Good_c _ _ _ xs _ (by repeat (first | assumption | refine Row.e0 ?_ (by assumption))) hn (by omega), ?_⟩; intro w4 e4; have z4 := cutLe e4)
      | ((exfalso; omega))
      | ((with_reducible refine bsS elemFrm [] rfl rfl (by simp) (by omega) (fun w9 e9 o9 => ?_)); have z9 := cutLe e9)
      | ((with_reducible refine BIF.dec ?_ ?_) <;> intro _)
      | ((with_reducible refine BIF.s ?_ ?_) <;> intro _)
      | (with_reducible refine NEXTK.normal ?_)
      | (with_reducible refine NEXTK.ret ?_)
      | (with_reducible refine NEXTK.exit ?_)
      | (with_reducible refine SEQ.plain ?_)
      | (with_reducible refine hK _ _ ?_)
      | ((with_reducible refine RUNL.agg (fun _ => ?_) ?_); (focus kernel_rfl))
      | (with_reducible refine RUNL.run ?_)
      | ((with_reducible refine AR.ok ?_ ?_); exact ⟨by first | omega | (dsimp only; omega), by first | omega | (dsimp only; omega)⟩)
      | (with_reducible refine AR.wr ?_)
      | ((with_reducible intro w3 e3); try have z3 := cutLe e3)
      | ((with_reducible intro h3); have h4 := Nat.le_of_lt h3; clear h4)))
    all_goals
      intro hx'
      rw [hf]
      exact ⟨_, rfl, hx', _, rfl, (by clear hx'; repeat (first | exact o9 | exact o9.lo (by omega) | refine Own.e0 ?_ (by assumption)))⟩
  · have his := hr.isSome (by simp; omega)
    cases ho : areF xs with
    | false =>
      have hf : moveP xs id v = ([], false) := moveP_bad (.inl ho)
      repeat (any_goals (
        conv => whnf
        first
        | ((with_reducible refine callF (g := 50) ?_ ?_); kernel_rfl; refine ⟨_, l27Find_c _ _ _ xs id _ (by repeat (first | assumption | refine Row.e0 ?_ (by assumption))) hn (by omega), ?_⟩; intro w4 e4; have z4 := cutLe e4)
        | ((with_reducible refine callF (g := 40) ?_ ?_); kernel_rfl; refine ⟨_, l27Good_c _ _ _ xs _ (by repeat (first | assumption | refine Row.e0 ?_ (by assumption))) hn (by omega), ?_⟩; intro w4 e4; have z4 := cutLe e4)
        | ((with_reducible refine BIF.s (fun h => absurd h ?_) (fun _ => ?_)); focus (first | (simp; done) | (simp; omega)))
        | ((with_reducible refine BIF.s (fun _ => ?_) (fun h => absurd h ?_)); rotate_left; focus (first | (simp; done) | (simp; omega)))
        | ((with_reducible refine bsS elemFrm [] rfl rfl (by simp) (by omega) (fun w9 e9 o9 => ?_)); have z9 := cutLe e9)
        | ((with_reducible refine BIF.dec ?_ ?_) <;> intro _)
        | ((with_reducible refine BIF.s ?_ ?_) <;> intro _)
        | (with_reducible refine NEXTK.normal ?_)
        | (with_reducible refine NEXTK.ret ?_)
        | (with_reducible refine NEXTK.exit ?_)
        | (with_reducible refine SEQ.plain ?_)
        | (with_reducible refine hK _ _ ?_)
        | ((with_reducible refine RUNL.agg (fun _ => ?_) ?_); (focus kernel_rfl))
        | (with_reducible refine RUNL.run ?_)
        | ((with_reducible refine AR.ok ?_ ?_); exact ⟨by first | omega | (dsimp only; omega), by first | omega | (dsimp only; omega)⟩)
        | (with_reducible refine AR.wr ?_)
        | ((with_reducible intro w3 e3); try have z3 := cutLe e3)
        | ((with_reducible intro h3); have h4 := Nat.le_of_lt h3; clear h4)))
      intro hx'
      rw [hf]
      exact ⟨_, rfl, hx', _, rfl, (by clear hx'; repeat (first | exact o9 | exact o9.lo (by omega) | refine Own.e0 ?_ (by assumption)))⟩
    | true =>
      skip
      repeat (any_goals (
        conv => whnf
        first
        | ((with_reducible refine callF (g := 50) ?_ ?_); kernel_rfl; refine ⟨_, l27Find_c _ _ _ xs id _ (by repeat (first | assumption | refine Row.e0 ?_ (by assumption))) hn (by omega), ?_⟩; intro w4 e4; have z4 := cutLe e4)
        | ((with_reducible refine callF (g := 40) ?_ ?_); kernel_rfl; refine ⟨_, l27Good_c _ _ _ xs _ (by repeat (first | assumption | refine Row.e0 ?_ (by assumption))) hn (by omega), ?_⟩; intro w4 e4; have z4 := cutLe e4)
        | ((with_reducible refine BIF.s (fun h => absurd h ?_) (fun _ => ?_)); focus (first | (simp; done) | (simp; omega)))
        | ((with_reducible refine BIF.s (fun _ => ?_) (fun h => absurd h ?_)); rotate_left; focus (first | (simp; done) | (simp; omega)))
        | ((exfalso; omega))
        | ((with_reducible refine BIF.dec ?_ ?_) <;> intro _)
        | ((with_reducible refine BIF.s ?_ ?_) <;> intro _)
        | (with_reducible refine NEXTK.normal ?_)
        | (with_reducible refine NEXTK.ret ?_)
        | (with_reducible refine NEXTK.exit ?_)
        | (with_reducible refine SEQ.plain ?_)
        | (with_reducible refine hK _ _ ?_)
        | ((with_reducible refine RUNL.agg (fun _ => ?_) ?_); (focus kernel_rfl))
        | (with_reducible refine RUNL.run ?_)
        | ((with_reducible refine AR.ok ?_ ?_); exact ⟨by first | omega | (dsimp only; omega), by first | omega | (dsimp only; omega)⟩)
        | (with_reducible refine AR.wr ?_)
        | ((with_reducible intro w3 e3); try have z3 := cutLe e3)
        | ((with_reducible intro h3); have h4 := Nat.le_of_lt h3; clear h4)))
      refine bsS elemFrm [] rfl rfl (by simp) (by omega) (fun w1 e1 o1 => ?_)
      have z1 := cutLe e1
      conv => whnf
      repeat (first | ((with_reducible refine NEXTK.normal ?_); conv => whnf) | ((with_reducible refine NEXTK.exit ?_); conv => whnf) | ((with_reducible refine NEXTK.ret ?_); conv => whnf) | ((with_reducible refine SEQ.plain ?_); conv => whnf) | ((with_reducible refine AR.ok ?_ ?_); exact ⟨by omega, by omega⟩; conv => whnf))
      refine apS (ns := xs.map encFrm) elemFrm o1 (by repeat (first | assumption | refine Row.e0 ?_ (by assumption))) (by simpa using hn) (by intro l hl; obtain ⟨x, -, rfl⟩ := List.mem_map.1 hl; rfl) ⟨by simp; omega, by simp; omega⟩ ⟨(by show w.heap.size ≤ _; omega), by omega⟩ trivial (fun v2 w2 x2 o2 => ?_)
      have z2 := cutLe x2
      replace o2 : Own w2 w4.heap.size 26 5 v2 (xs.map encFrm) := by simpa using o2
      obtain ⟨b2, d2, rfl, q2, p2⟩ := o2.rowx
      have his2 := q2.isSome (by simp; omega)
      have oL : ∀ k, (Value.slice b2 xs.length d2).ownBlock = some k → w4.heap.size ≤ k ∧ k < w2.heap.size := fun k h => o2.block h
      repeat (any_goals (
        conv => whnf
        first
        | ((with_reducible refine OBL.mk ?_ (fun _ => ?_)); exact ⟨by first | omega | (dsimp only; omega), by first | omega | (dsimp only; omega), his2⟩)
        | ((with_reducible refine ELD.atNow (enc := encFrm) (xs := xs) k q2 ?_ ?_ (fun x' hx' => ?_)); omega; omega; obtain rfl : x = x' := by (rw [hx] at hx'; exact Option.some.inj hx'))
        | ((with_reducible intro w3 e3); have z3 := cutLe e3; replace o2 := o2.ext e3 (by first | exact fun _ _ h => h | (intro k hk h; have hh := oL k hk; simp only [bk] at h; omega)))
        | ((with_reducible refine BIF.dec ?_ ?_) <;> intro _)
        | ((with_reducible refine BIF.s ?_ ?_) <;> intro _)
        | (with_reducible refine NEXTK.normal ?_)
        | (with_reducible refine NEXTK.ret ?_)
        | (with_reducible refine NEXTK.exit ?_)
        | (with_reducible refine SEQ.plain ?_)
        | (with_reducible refine hK _ _ ?_)
        | ((with_reducible refine RUNL.agg (fun _ => ?_) ?_); (focus kernel_rfl))
        | (with_reducible refine RUNL.run ?_)
        | ((with_reducible refine AR.ok ?_ ?_); exact ⟨by first | omega | (dsimp only; omega), by first | omega | (dsimp only; omega)⟩)
        | (with_reducible refine AR.wr ?_)
        | ((with_reducible intro w3 e3); try have z3 := cutLe e3)
        | ((with_reducible intro h3); have h4 := Nat.le_of_lt h3; clear h4)))
      refine stS (i := _) o2 rfl rfl rfl k hi.symm (by rw [List.getElem?_map, hx]; rfl) (by decide) (by show w.heap.size ≤ _; omega) ⟨fun h => by have := oL _ h; simp only [bk] at this; omega, trivial⟩ (fun w5 e5 o5 => ?_)
      replace o5 : Own w5 w4.heap.size 26 5 (.slice b2 xs.length d2) ((xs.set k (setW x v)).map encFrm) := by rw [List.map_set]; exact o5
      have z5 := cutLe e5
      repeat (any_goals (
        conv => whnf
        first
        | ((with_reducible refine callF (g := 40) ?_ ?_); kernel_rfl; refine ⟨_, l27Good_c _ _ _ (xs.set k (setW x v)) _ o5.row.1 (by simp) (by omega), ?_⟩; intro w4 e4; have z4 := cutLe e4)
        | ((with_reducible refine BIF.dec ?_ ?_) <;> intro _)
        | ((with_reducible refine BIF.s ?_ ?_) <;> intro _)
        | (with_reducible refine NEXTK.normal ?_)
        | (with_reducible refine NEXTK.ret ?_)
        | (with_reducible refine NEXTK.exit ?_)
        | (with_reducible refine SEQ.plain ?_)
        | (with_reducible refine hK _ _ ?_)
        | ((with_reducible refine RUNL.agg (fun _ => ?_) ?_); (focus kernel_rfl))
        | (with_reducible refine RUNL.run ?_)
        | ((with_reducible refine AR.ok ?_ ?_); exact ⟨by first | omega | (dsimp only; omega), by first | omega | (dsimp only; omega)⟩)
        | (with_reducible refine AR.wr ?_)
        | ((with_reducible intro w3 e3); try have z3 := cutLe e3)
        | ((with_reducible intro h3); have h4 := Nat.le_of_lt h3; clear h4)))
      · refine bsS elemFrm [] rfl rfl (by simp) (by omega) (fun w9 e9 o9 => ?_)
        have z9 := cutLe e9
        repeat (any_goals (
          conv => whnf
          first
          | ((with_reducible refine BIF.dec ?_ ?_) <;> intro _)
          | ((with_reducible refine BIF.s ?_ ?_) <;> intro _)
          | (with_reducible refine NEXTK.normal ?_)
          | (with_reducible refine NEXTK.ret ?_)
          | (with_reducible refine NEXTK.exit ?_)
          | (with_reducible refine SEQ.plain ?_)
          | (with_reducible refine hK _ _ ?_)
          | ((with_reducible refine RUNL.agg (fun _ => ?_) ?_); (focus kernel_rfl))
          | (with_reducible refine RUNL.run ?_)
          | ((with_reducible refine AR.ok ?_ ?_); exact ⟨by first | omega | (dsimp only; omega), by first | omega | (dsimp only; omega)⟩)
          | (with_reducible refine AR.wr ?_)
          | ((with_reducible intro w3 e3); try have z3 := cutLe e3)
          | ((with_reducible intro h3); have h4 := Nat.le_of_lt h3; clear h4)))
        intro hx'
        have hf : moveP xs id v = ([], false) := by rw [moveP_good ho hi hx]; simp_all
        rw [hf]; exact ⟨_, rfl, hx', _, rfl, o9.lo (by omega)⟩
      · intro hx'
        have hf : moveP xs id v = (xs.set k (setW x v), true) := by rw [moveP_good ho hi hx]; simp_all
        rw [hf]; exact ⟨_, rfl, hx', _, rfl, by simpa using (o5.e0 e4).lo (by omega)⟩
def setU (x : Frm) (v : Int) : Frm := ⟨x.fId, x.fWide, x.fWall, x.fFrom, v⟩
def takeL (xs : List Frm) (k : Nat) (v : Int) : List Frm := xs.set k (setU (xs.getD k default) v)
def takeP (xs : List Frm) (id v : Int) : List Frm × Bool :=
  if areF xs && decide (0 ≤ idAt xs id) && inB v (xs.getD (idAt xs id).toNat default).fFrom ((xs.getD (idAt xs id).toNat default).fUntil - 1) then (takeL xs (idAt xs id).toNat v, true) else ([], false)
theorem takeP_bad {xs : List Frm} {id v : Int} (h : areF xs = false ∨ idAt xs id = -1) : takeP xs id v = ([], false) := by
  unfold takeP
  rcases h with h | h <;> simp [h]
theorem takeL_eq {xs : List Frm} {k : Nat} {x : Frm} (v : Int) (hx : xs[k]? = some x) : takeL xs k v = xs.set k (setU x v) := by
  simp [takeL, hx]
theorem takeP_good {xs : List Frm} {id v : Int} {k : Nat} {x : Frm} (h : areF xs = true) (hk : idAt xs id = k) (hx : xs[k]? = some x) :
    takeP xs id v = if inB v x.fFrom (x.fUntil - 1) = true then (xs.set k (setU x v), true) else ([], false) := by
  unfold takeP
  have hg : (xs.getD k default) = x := by simp [hx]
  simp only [h, hk, Int.toNat_natCast, takeL_eq v hx, hg]
  simp
theorem takeP_len (xs : List Frm) (id v : Int) : (takeP xs id v).1.length ≤ xs.length := by
  unfold takeP
  split
  · simp [takeL]
  · simp
theorem TakeDown_c (a : Option Addr) (n c : Nat) (xs : List Frm) (id v : Int) (w : World) (hr : Row w a 5 (xs.map encFrm)) (hn : xs.length = n) (hm : n ≤ 1048577) :
    Calls Tryd.prog 16 #[.slice a n c, .int .i64 id, .int .i64 v] w fun e w' => ∃ r, e = .returned r ∧ E0 w w' ∧ ∃ s, r = .tuple #[s, .bool (takeP xs id v).2] ∧ Own w' w.heap.size 26 5 s ((takeP xs id v).1.map encFrm) := by
  refine enterK Non 44 Tryd.func16 rfl rfl rfl fun K hK => ?_
  rcases idAt_spec xs id with hi | ⟨k, x, hi, hk, hx, hid⟩
  · have hf : takeP xs id v = ([], false) := takeP_bad (.inr hi)
    repeat (any_goals (
      conv => whnf
      first
      | ((with_reducible refine callF (g := 47) ?_ ?_); kernel_rfl; refine ⟨_, frameAt_c _ _ _ xs id _ (by repeat (first | assumption | refine Row.e0 ?_ (by assumption))) hn (by omega), ?_⟩; intro w4 e4; have z4 := cutLe e4)
      | ((with_reducible refine callF (g := 36) ?_ ?_); kernel_rfl; refine ⟨_, AreFrames_c _ _ _ xs _ (by repeat (first | assumption | refine Row.e0 ?_ (by assumption))) hn (by omega), ?_⟩; intro w4 e4; have z4 := cutLe e4)
      | ((with_reducible refine DRAW.quiet ?_ ?_ ?_); kernel_rfl; kernel_rfl)
      | ((with_reducible refine callQX (g := 36) ?_ ?_); kernel_rfl; refine ⟨_, fun w' _ x => AreFrames_c _ _ _ xs _ (hr.ext x (mAddr_Non _)) hn (by omega), ?_⟩)
      | ((with_reducible refine callQ (g := 48) ?_ ?_); kernel_rfl; refine ⟨_, fun w' _ => within_c _ _ _ _, ?_⟩)
      | ((exfalso; omega))
      | ((with_reducible refine BIF.dec ?_ ?_) <;> intro _)
      | ((with_reducible refine BIF.s ?_ ?_) <;> intro _)
      | (with_reducible refine NEXTK.normal ?_)
      | (with_reducible refine NEXTK.ret ?_)
      | (with_reducible refine NEXTK.exit ?_)
      | (with_reducible refine SEQ.plain ?_)
      | (with_reducible refine hK _ _ ?_)
      | ((with_reducible refine RUNL.agg (fun _ => ?_) ?_); (focus kernel_rfl))
      | (with_reducible refine RUNL.run ?_)
      | ((with_reducible refine AR.ok ?_ ?_); exact ⟨by first | omega | (dsimp only; omega), by first | omega | (dsimp only; omega)⟩)
      | (with_reducible refine AR.wr ?_)
      | ((with_reducible intro w3 e3); try have z3 := cutLe e3)
      | ((with_reducible intro h3); have h4 := Nat.le_of_lt h3; clear h4)))
    all_goals
      intro hx'
      rw [hf]
      exact ⟨_, rfl, hx', _, rfl, Own.nil _ _ _ _⟩
  · cases ho : areF xs with
    | false =>
      have hf : takeP xs id v = ([], false) := takeP_bad (.inl ho)
      repeat (any_goals (
        conv => whnf
        first
        | ((with_reducible refine callF (g := 47) ?_ ?_); kernel_rfl; refine ⟨_, frameAt_c _ _ _ xs id _ (by repeat (first | assumption | refine Row.e0 ?_ (by assumption))) hn (by omega), ?_⟩; intro w4 e4; have z4 := cutLe e4)
        | ((with_reducible refine callF (g := 36) ?_ ?_); kernel_rfl; refine ⟨_, AreFrames_c _ _ _ xs _ (by repeat (first | assumption | refine Row.e0 ?_ (by assumption))) hn (by omega), ?_⟩; intro w4 e4; have z4 := cutLe e4)
        | ((with_reducible refine DRAW.quiet ?_ ?_ ?_); kernel_rfl; kernel_rfl)
        | ((with_reducible refine callQX (g := 36) ?_ ?_); kernel_rfl; refine ⟨_, fun w' _ x => AreFrames_c _ _ _ xs _ (hr.ext x (mAddr_Non _)) hn (by omega), ?_⟩)
        | ((with_reducible refine callQ (g := 48) ?_ ?_); kernel_rfl; refine ⟨_, fun w' _ => within_c _ _ _ _, ?_⟩)
        | ((with_reducible refine BIF.s (fun h => absurd h ?_) (fun _ => ?_)); focus (first | (simp; done) | (simp; omega)))
        | ((with_reducible refine BIF.s (fun _ => ?_) (fun h => absurd h ?_)); rotate_left; focus (first | (simp; done) | (simp; omega)))
        | ((with_reducible refine BIF.dec ?_ ?_) <;> intro _)
        | ((with_reducible refine BIF.s ?_ ?_) <;> intro _)
        | (with_reducible refine NEXTK.normal ?_)
        | (with_reducible refine NEXTK.ret ?_)
        | (with_reducible refine NEXTK.exit ?_)
        | (with_reducible refine SEQ.plain ?_)
        | (with_reducible refine hK _ _ ?_)
        | ((with_reducible refine RUNL.agg (fun _ => ?_) ?_); (focus kernel_rfl))
        | (with_reducible refine RUNL.run ?_)
        | ((with_reducible refine AR.ok ?_ ?_); exact ⟨by first | omega | (dsimp only; omega), by first | omega | (dsimp only; omega)⟩)
        | (with_reducible refine AR.wr ?_)
        | ((with_reducible intro w3 e3); try have z3 := cutLe e3)
        | ((with_reducible intro h3); have h4 := Nat.le_of_lt h3; clear h4)))
      intro hx'
      rw [hf]
      exact ⟨_, rfl, hx', _, rfl, Own.nil _ _ _ _⟩
    | true =>
      have hfit := okF_spec (areF_at ho hx)
      have his0 := hr.isSome (by simp; omega)
      by_cases hin : inB v x.fFrom (x.fUntil - 1) = true
      rotate_left
      · have hf : takeP xs id v = ([], false) := by rw [takeP_good ho hi hx, if_neg hin]
        have hin2 : ¬ (x.fFrom ≤ v ∧ v ≤ x.fUntil - 1) := fun h => hin (inB_iff.2 h)
        have hin3 : inB v x.fFrom (x.fUntil - 1) = false := by simpa using hin
        repeat (any_goals (
          conv => whnf
          first
          | ((with_reducible refine callF (g := 47) ?_ ?_); kernel_rfl; refine ⟨_, frameAt_c _ _ _ xs id _ (by repeat (first | assumption | refine Row.e0 ?_ (by assumption))) hn (by omega), ?_⟩; intro w4 e4; have z4 := cutLe e4)
          | ((with_reducible refine callF (g := 36) ?_ ?_); kernel_rfl; refine ⟨_, AreFrames_c _ _ _ xs _ (by repeat (first | assumption | refine Row.e0 ?_ (by assumption))) hn (by omega), ?_⟩; intro w4 e4; have z4 := cutLe e4)
          | ((with_reducible refine DRAW.quiet ?_ ?_ ?_); kernel_rfl; kernel_rfl)
          | ((with_reducible refine callQX (g := 36) ?_ ?_); kernel_rfl; refine ⟨_, fun w' _ x => AreFrames_c _ _ _ xs _ (hr.ext x (mAddr_Non _)) hn (by omega), ?_⟩)
          | ((with_reducible refine callQ (g := 48) ?_ ?_); kernel_rfl; refine ⟨_, fun w' _ => within_c _ _ _ _, ?_⟩)
          | ((with_reducible refine BIF.s (fun h => absurd h ?_) (fun _ => ?_)); focus (first | (simp; done) | (simp; omega)))
          | ((with_reducible refine BIF.s (fun _ => ?_) (fun h => absurd h ?_)); rotate_left; focus (first | (simp; done) | (simp; omega)))
          | ((exfalso; omega))
          | ((with_reducible refine OBL.mk ?_ (fun _ => ?_)); exact ⟨by first | omega | (dsimp only; omega), by first | omega | (dsimp only; omega), his0⟩)
          | ((with_reducible refine ELD.at (k) hr ?_ ?_ ?_ (fun x' hx' => ?_)); exact mAddr_Non _; (first | rfl | omega); exact hk; obtain rfl : x = x' := by (rw [hx] at hx'; exact Option.some.inj hx'))
          | ((with_reducible refine callF (g := 48) ?_ ?_); kernel_rfl; refine ⟨_, within_c _ _ _ _, ?_⟩; intro w4 e4; have z4 := cutLe e4)
          | ((exfalso; clear hK; simp_all <;> omega))
          | ((with_reducible refine BIF.dec ?_ ?_) <;> intro _)
          | ((with_reducible refine BIF.s ?_ ?_) <;> intro _)
          | (with_reducible refine NEXTK.normal ?_)
          | (with_reducible refine NEXTK.ret ?_)
          | (with_reducible refine NEXTK.exit ?_)
          | (with_reducible refine SEQ.plain ?_)
          | (with_reducible refine hK _ _ ?_)
          | ((with_reducible refine RUNL.agg (fun _ => ?_) ?_); (focus kernel_rfl))
          | (with_reducible refine RUNL.run ?_)
          | ((with_reducible refine AR.ok ?_ ?_); exact ⟨by first | omega | (dsimp only; omega), by first | omega | (dsimp only; omega)⟩)
          | (with_reducible refine AR.wr ?_)
          | ((with_reducible intro w3 e3); try have z3 := cutLe e3)
          | ((with_reducible intro h3); have h4 := Nat.le_of_lt h3; clear h4)))
        all_goals
          intro hx'
          rw [hf]
          exact ⟨_, rfl, hx', _, rfl, Own.nil _ _ _ _⟩
      have hf : takeP xs id v = (xs.set k (setU x v), true) := by rw [takeP_good ho hi hx, if_pos hin]
      have hin2 := inB_iff.1 hin
      repeat (any_goals (
        conv => whnf
        first
        | ((with_reducible refine callF (g := 47) ?_ ?_); kernel_rfl; refine ⟨_, frameAt_c _ _ _ xs id _ (by repeat (first | assumption | refine Row.e0 ?_ (by assumption))) hn (by omega), ?_⟩; intro w4 e4; have z4 := cutLe e4)
        | ((with_reducible refine callF (g := 36) ?_ ?_); kernel_rfl; refine ⟨_, AreFrames_c _ _ _ xs _ (by repeat (first | assumption | refine Row.e0 ?_ (by assumption))) hn (by omega), ?_⟩; intro w4 e4; have z4 := cutLe e4)
        | ((with_reducible refine DRAW.quiet ?_ ?_ ?_); kernel_rfl; kernel_rfl)
        | ((with_reducible refine callQX (g := 36) ?_ ?_); kernel_rfl; refine ⟨_, fun w' _ x => AreFrames_c _ _ _ xs _ (hr.ext x (mAddr_Non _)) hn (by omega), ?_⟩)
        | ((with_reducible refine callQ (g := 48) ?_ ?_); kernel_rfl; refine ⟨_, fun w' _ => within_c _ _ _ _, ?_⟩)
        | ((with_reducible refine BIF.s (fun h => absurd h ?_) (fun _ => ?_)); focus (first | (simp; done) | (simp; omega)))
        | ((with_reducible refine BIF.s (fun _ => ?_) (fun h => absurd h ?_)); rotate_left; focus (first | (simp; done) | (simp; omega)))
        | ((exfalso; omega))
        | ((with_reducible refine OBL.mk ?_ (fun _ => ?_)); exact ⟨by first | omega | (dsimp only; omega), by first | omega | (dsimp only; omega), his0⟩)
        | ((with_reducible refine ELD.at (k) hr ?_ ?_ ?_ (fun x' hx' => ?_)); exact mAddr_Non _; (first | rfl | omega); exact hk; obtain rfl : x = x' := by (rw [hx] at hx'; exact Option.some.inj hx'))
        | ((with_reducible refine callF (g := 48) ?_ ?_); kernel_rfl; refine ⟨_, within_c _ _ _ _, ?_⟩; intro w4 e4; have z4 := cutLe e4)
        | ((exfalso; clear hK; simp_all <;> omega))
        | ((with_reducible refine BIF.dec ?_ ?_) <;> intro _)
        | ((with_reducible refine BIF.s ?_ ?_) <;> intro _)
        | (with_reducible refine NEXTK.normal ?_)
        | (with_reducible refine NEXTK.ret ?_)
        | (with_reducible refine NEXTK.exit ?_)
        | (with_reducible refine SEQ.plain ?_)
        | (with_reducible refine hK _ _ ?_)
        | ((with_reducible refine RUNL.agg (fun _ => ?_) ?_); (focus kernel_rfl))
        | (with_reducible refine RUNL.run ?_)
        | ((with_reducible refine AR.ok ?_ ?_); exact ⟨by first | omega | (dsimp only; omega), by first | omega | (dsimp only; omega)⟩)
        | (with_reducible refine AR.wr ?_)
        | ((with_reducible intro w3 e3); try have z3 := cutLe e3)
        | ((with_reducible intro h3); have h4 := Nat.le_of_lt h3; clear h4)))
      conv => whnf
      refine callY (g := 49) (by kernel_rfl) ⟨_, fun x => CloneFrm_c _ _ _ xs _ (hr.ext x (mAddr_Non _)) hn (by omega), fun r w1 e1 o1 => ?_⟩
      have z1' := cutLe e1
      have z3' : w4.heap.size ≤ w3.heap.size := cutLe e3
      replace o1 := o1.lo (lo' := w.heap.size) (by omega)
      obtain ⟨b1, d1, rfl, q1, p1⟩ := o1.rowx
      have his := q1.isSome (by simp; omega)
      repeat (any_goals (
        conv => whnf
        first
        | ((with_reducible refine OBL.mk ?_ (fun _ => ?_)); exact ⟨by first | omega | (dsimp only; omega), by first | omega | (dsimp only; omega), his⟩)
        | ((with_reducible refine BIF.dec ?_ ?_) <;> intro _)
        | ((with_reducible refine BIF.s ?_ ?_) <;> intro _)
        | (with_reducible refine NEXTK.normal ?_)
        | (with_reducible refine NEXTK.ret ?_)
        | (with_reducible refine NEXTK.exit ?_)
        | (with_reducible refine SEQ.plain ?_)
        | (with_reducible refine hK _ _ ?_)
        | ((with_reducible refine RUNL.agg (fun _ => ?_) ?_); (focus kernel_rfl))
        | (with_reducible refine RUNL.run ?_)
        | ((with_reducible refine AR.ok ?_ ?_); exact ⟨by first | omega | (dsimp only; omega), by first | omega | (dsimp only; omega)⟩)
        | (with_reducible refine AR.wr ?_)
        | ((with_reducible intro w3 e3); try have z3 := cutLe e3)
        | ((with_reducible intro h3); have h4 := Nat.le_of_lt h3; clear h4)))
      refine stS (i := _) o1 rfl rfl rfl k hi.symm (by rw [List.getElem?_map, hx]; rfl) (by decide) (Nat.le_refl _) trivial (fun w5 e5 o5 => ?_)
      replace o5 : Own w5 w.heap.size 26 5 (.slice b1 xs.length d1) ((xs.set k (setU x v)).map encFrm) := by rw [List.map_set]; exact o5
      repeat (any_goals (
        conv => whnf
        first
        | ((with_reducible refine BIF.dec ?_ ?_) <;> intro _)
        | ((with_reducible refine BIF.s ?_ ?_) <;> intro _)
        | (with_reducible refine NEXTK.normal ?_)
        | (with_reducible refine NEXTK.ret ?_)
        | (with_reducible refine NEXTK.exit ?_)
        | (with_reducible refine SEQ.plain ?_)
        | (with_reducible refine hK _ _ ?_)
        | ((with_reducible refine RUNL.agg (fun _ => ?_) ?_); (focus kernel_rfl))
        | (with_reducible refine RUNL.run ?_)
        | ((with_reducible refine AR.ok ?_ ?_); exact ⟨by first | omega | (dsimp only; omega), by first | omega | (dsimp only; omega)⟩)
        | (with_reducible refine AR.wr ?_)
        | ((with_reducible intro w3 e3); try have z3 := cutLe e3)
        | ((with_reducible intro h3); have h4 := Nat.le_of_lt h3; clear h4)))
      intro hx'
      rw [hf]; exact ⟨_, rfl, hx', _, rfl, by simpa using o5⟩
theorem TakeDownS_c (a : Option Addr) (n c : Nat) (xs : List Frm) (id v : Int) (w : World) (hr : Row w a 5 (xs.map encFrm)) (hn : xs.length = n) (hm : n ≤ 1048577) :
    Calls Tryd.prog 17 #[.slice a n c, .int .i64 id, .int .i64 v] w fun e w' => ∃ r, e = .returned r ∧ E0 w w' ∧ ∃ s, r = .tuple #[s, .bool (takeP xs id v).2] ∧ Own w' w.heap.size 26 5 s ((takeP xs id v).1.map encFrm) := by
  refine enterK Non 54 Tryd.func17 rfl rfl rfl fun K hK => ?_
  rcases idAt_spec xs id with hi | ⟨k, x, hi, hk, hx, hid⟩
  · have hf : takeP xs id v = ([], false) := takeP_bad (.inr hi)
    repeat (any_goals (
      conv => whnf
      first
      | ((with_reducible refine callF (g := 50) ?_ ?_); kernel_rfl; refine ⟨_, l27Find_c _ _ _ xs id _ (by repeat (first | assumption | refine Row.e0 ?_ (by assumption))) hn (by omega), ?_⟩; intro w4 e4; have z4 := cutLe e4)
      | ((with_reducible refine callF (g := 40) ?_ ?_); kernel_rfl; refine ⟨_, l27Good_c _ _ _ xs _ (by repeat (first | assumption | refine Row.e0 ?_ (by assumption))) hn (by omega), ?_⟩; intro w4 e4; have z4 := cutLe e4)
      | ((exfalso; omega))
      | ((with_reducible refine bsS elemFrm [] rfl rfl (by simp) (by omega) (fun w9 e9 o9 => ?_)); have z9 := cutLe e9)
      | ((with_reducible refine BIF.dec ?_ ?_) <;> intro _)
      | ((with_reducible refine BIF.s ?_ ?_) <;> intro _)
      | (with_reducible refine NEXTK.normal ?_)
      | (with_reducible refine NEXTK.ret ?_)
      | (with_reducible refine NEXTK.exit ?_)
      | (with_reducible refine SEQ.plain ?_)
      | (with_reducible refine hK _ _ ?_)
      | ((with_reducible refine RUNL.agg (fun _ => ?_) ?_); (focus kernel_rfl))
      | (with_reducible refine RUNL.run ?_)
      | ((with_reducible refine AR.ok ?_ ?_); exact ⟨by first | omega | (dsimp only; omega), by first | omega | (dsimp only; omega)⟩)
      | (with_reducible refine AR.wr ?_)
      | ((with_reducible intro w3 e3); try have z3 := cutLe e3)
      | ((with_reducible intro h3); have h4 := Nat.le_of_lt h3; clear h4)))
    all_goals
      intro hx'
      rw [hf]
      exact ⟨_, rfl, hx', _, rfl, (by clear hx'; repeat (first | exact o9 | exact o9.lo (by omega) | refine Own.e0 ?_ (by assumption)))⟩
  · have his := hr.isSome (by simp; omega)
    cases ho : areF xs with
    | false =>
      have hf : takeP xs id v = ([], false) := takeP_bad (.inl ho)
      repeat (any_goals (
        conv => whnf
        first
        | ((with_reducible refine callF (g := 50) ?_ ?_); kernel_rfl; refine ⟨_, l27Find_c _ _ _ xs id _ (by repeat (first | assumption | refine Row.e0 ?_ (by assumption))) hn (by omega), ?_⟩; intro w4 e4; have z4 := cutLe e4)
        | ((with_reducible refine callF (g := 40) ?_ ?_); kernel_rfl; refine ⟨_, l27Good_c _ _ _ xs _ (by repeat (first | assumption | refine Row.e0 ?_ (by assumption))) hn (by omega), ?_⟩; intro w4 e4; have z4 := cutLe e4)
        | ((with_reducible refine BIF.s (fun h => absurd h ?_) (fun _ => ?_)); focus (first | (simp; done) | (simp; omega)))
        | ((with_reducible refine BIF.s (fun _ => ?_) (fun h => absurd h ?_)); rotate_left; focus (first | (simp; done) | (simp; omega)))
        | ((with_reducible refine bsS elemFrm [] rfl rfl (by simp) (by omega) (fun w9 e9 o9 => ?_)); have z9 := cutLe e9)
        | ((with_reducible refine BIF.dec ?_ ?_) <;> intro _)
        | ((with_reducible refine BIF.s ?_ ?_) <;> intro _)
        | (with_reducible refine NEXTK.normal ?_)
        | (with_reducible refine NEXTK.ret ?_)
        | (with_reducible refine NEXTK.exit ?_)
        | (with_reducible refine SEQ.plain ?_)
        | (with_reducible refine hK _ _ ?_)
        | ((with_reducible refine RUNL.agg (fun _ => ?_) ?_); (focus kernel_rfl))
        | (with_reducible refine RUNL.run ?_)
        | ((with_reducible refine AR.ok ?_ ?_); exact ⟨by first | omega | (dsimp only; omega), by first | omega | (dsimp only; omega)⟩)
        | (with_reducible refine AR.wr ?_)
        | ((with_reducible intro w3 e3); try have z3 := cutLe e3)
        | ((with_reducible intro h3); have h4 := Nat.le_of_lt h3; clear h4)))
      intro hx'
      rw [hf]
      exact ⟨_, rfl, hx', _, rfl, (by clear hx'; repeat (first | exact o9 | exact o9.lo (by omega) | refine Own.e0 ?_ (by assumption)))⟩
    | true =>
      have hfit := okF_spec (areF_at ho hx)
      by_cases hin : inB v x.fFrom (x.fUntil - 1) = true
      rotate_left
      · have hf : takeP xs id v = ([], false) := by rw [takeP_good ho hi hx, if_neg hin]
        have hin2 : ¬ (x.fFrom ≤ v ∧ v ≤ x.fUntil - 1) := fun h => hin (inB_iff.2 h)
        repeat (any_goals (
          conv => whnf
          first
          | ((with_reducible refine callF (g := 50) ?_ ?_); kernel_rfl; refine ⟨_, l27Find_c _ _ _ xs id _ (by repeat (first | assumption | refine Row.e0 ?_ (by assumption))) hn (by omega), ?_⟩; intro w4 e4; have z4 := cutLe e4)
          | ((with_reducible refine callF (g := 40) ?_ ?_); kernel_rfl; refine ⟨_, l27Good_c _ _ _ xs _ (by repeat (first | assumption | refine Row.e0 ?_ (by assumption))) hn (by omega), ?_⟩; intro w4 e4; have z4 := cutLe e4)
          | ((with_reducible refine BIF.s (fun h => absurd h ?_) (fun _ => ?_)); focus (first | (simp; done) | (simp; omega)))
          | ((with_reducible refine BIF.s (fun _ => ?_) (fun h => absurd h ?_)); rotate_left; focus (first | (simp; done) | (simp; omega)))
          | ((exfalso; omega))
          | ((with_reducible refine OBL.mk ?_ (fun _ => ?_)); exact ⟨by first | omega | (dsimp only; omega), by first | omega | (dsimp only; omega), his⟩)
          | ((with_reducible refine ELD.at (k) hr ?_ ?_ ?_ (fun x' hx' => ?_)); exact mAddr_Non _; (first | rfl | omega); exact hk; obtain rfl : x = x' := by (rw [hx] at hx'; exact Option.some.inj hx'))
          | ((with_reducible refine bsS elemFrm [] rfl rfl (by simp) (by omega) (fun w9 e9 o9 => ?_)); have z9 := cutLe e9)
          | ((with_reducible refine BIF.dec ?_ ?_) <;> intro _)
          | ((with_reducible refine BIF.s ?_ ?_) <;> intro _)
          | (with_reducible refine NEXTK.normal ?_)
          | (with_reducible refine NEXTK.ret ?_)
          | (with_reducible refine NEXTK.exit ?_)
          | (with_reducible refine SEQ.plain ?_)
          | (with_reducible refine hK _ _ ?_)
          | ((with_reducible refine RUNL.agg (fun _ => ?_) ?_); (focus kernel_rfl))
          | (with_reducible refine RUNL.run ?_)
          | ((with_reducible refine AR.ok ?_ ?_); exact ⟨by first | omega | (dsimp only; omega), by first | omega | (dsimp only; omega)⟩)
          | (with_reducible refine AR.wr ?_)
          | ((with_reducible intro w3 e3); try have z3 := cutLe e3)
          | ((with_reducible intro h3); have h4 := Nat.le_of_lt h3; clear h4)))
        all_goals
          intro hx'
          rw [hf]
          exact ⟨_, rfl, hx', _, rfl, (by clear hx'; repeat (first | exact o9 | exact o9.lo (by omega) | refine Own.e0 ?_ (by assumption)))⟩
      have hf : takeP xs id v = (xs.set k (setU x v), true) := by rw [takeP_good ho hi hx, if_pos hin]
      have hin2 := inB_iff.1 hin
      repeat (any_goals (
        conv => whnf
        first
        | ((with_reducible refine callF (g := 50) ?_ ?_); kernel_rfl; refine ⟨_, l27Find_c _ _ _ xs id _ (by repeat (first | assumption | refine Row.e0 ?_ (by assumption))) hn (by omega), ?_⟩; intro w4 e4; have z4 := cutLe e4)
        | ((with_reducible refine callF (g := 40) ?_ ?_); kernel_rfl; refine ⟨_, l27Good_c _ _ _ xs _ (by repeat (first | assumption | refine Row.e0 ?_ (by assumption))) hn (by omega), ?_⟩; intro w4 e4; have z4 := cutLe e4)
        | ((with_reducible refine BIF.s (fun h => absurd h ?_) (fun _ => ?_)); focus (first | (simp; done) | (simp; omega)))
        | ((with_reducible refine BIF.s (fun _ => ?_) (fun h => absurd h ?_)); rotate_left; focus (first | (simp; done) | (simp; omega)))
        | ((exfalso; omega))
        | ((with_reducible refine OBL.mk ?_ (fun _ => ?_)); exact ⟨by first | omega | (dsimp only; omega), by first | omega | (dsimp only; omega), his⟩)
        | ((with_reducible refine ELD.at (k) hr ?_ ?_ ?_ (fun x' hx' => ?_)); exact mAddr_Non _; (first | rfl | omega); exact hk; obtain rfl : x = x' := by (rw [hx] at hx'; exact Option.some.inj hx'))
        | ((with_reducible refine BIF.dec ?_ ?_) <;> intro _)
        | ((with_reducible refine BIF.s ?_ ?_) <;> intro _)
        | (with_reducible refine NEXTK.normal ?_)
        | (with_reducible refine NEXTK.ret ?_)
        | (with_reducible refine NEXTK.exit ?_)
        | (with_reducible refine SEQ.plain ?_)
        | (with_reducible refine hK _ _ ?_)
        | ((with_reducible refine RUNL.agg (fun _ => ?_) ?_); (focus kernel_rfl))
        | (with_reducible refine RUNL.run ?_)
        | ((with_reducible refine AR.ok ?_ ?_); exact ⟨by first | omega | (dsimp only; omega), by first | omega | (dsimp only; omega)⟩)
        | (with_reducible refine AR.wr ?_)
        | ((with_reducible intro w3 e3); try have z3 := cutLe e3)
        | ((with_reducible intro h3); have h4 := Nat.le_of_lt h3; clear h4)))
      refine bsS elemFrm [] rfl rfl (by simp) (by omega) (fun w1 e1 o1 => ?_)
      have z1 := cutLe e1
      conv => whnf
      repeat (first | ((with_reducible refine NEXTK.normal ?_); conv => whnf) | ((with_reducible refine NEXTK.exit ?_); conv => whnf) | ((with_reducible refine NEXTK.ret ?_); conv => whnf) | ((with_reducible refine SEQ.plain ?_); conv => whnf) | ((with_reducible refine AR.ok ?_ ?_); exact ⟨by omega, by omega⟩; conv => whnf))
      refine apS (ns := xs.map encFrm) elemFrm o1 (by repeat (first | assumption | refine Row.e0 ?_ (by assumption))) (by simpa using hn) (by intro l hl; obtain ⟨x, -, rfl⟩ := List.mem_map.1 hl; rfl) ⟨by simp; omega, by simp; omega⟩ ⟨(by show w.heap.size ≤ _; omega), by omega⟩ trivial (fun v2 w2 x2 o2 => ?_)
      have z2 := cutLe x2
      replace o2 : Own w2 w4.heap.size 26 5 v2 (xs.map encFrm) := by simpa using o2
      obtain ⟨b2, d2, rfl, q2, p2⟩ := o2.rowx
      have his2 := q2.isSome (by simp; omega)
      have oL : ∀ k, (Value.slice b2 xs.length d2).ownBlock = some k → w4.heap.size ≤ k ∧ k < w2.heap.size := fun k h => o2.block h
      repeat (any_goals (
        conv => whnf
        first
        | ((with_reducible refine OBL.mk ?_ (fun _ => ?_)); exact ⟨by first | omega | (dsimp only; omega), by first | omega | (dsimp only; omega), his2⟩)
        | ((with_reducible refine ELD.atNow (enc := encFrm) (xs := xs) k q2 ?_ ?_ (fun x' hx' => ?_)); omega; omega; obtain rfl : x = x' := by (rw [hx] at hx'; exact Option.some.inj hx'))
        | ((with_reducible intro w3 e3); have z3 := cutLe e3; replace o2 := o2.ext e3 (by first | exact fun _ _ h => h | (intro k hk h; have hh := oL k hk; simp only [bk] at h; omega)))
        | ((with_reducible refine BIF.dec ?_ ?_) <;> intro _)
        | ((with_reducible refine BIF.s ?_ ?_) <;> intro _)
        | (with_reducible refine NEXTK.normal ?_)
        | (with_reducible refine NEXTK.ret ?_)
        | (with_reducible refine NEXTK.exit ?_)
        | (with_reducible refine SEQ.plain ?_)
        | (with_reducible refine hK _ _ ?_)
        | ((with_reducible refine RUNL.agg (fun _ => ?_) ?_); (focus kernel_rfl))
        | (with_reducible refine RUNL.run ?_)
        | ((with_reducible refine AR.ok ?_ ?_); exact ⟨by first | omega | (dsimp only; omega), by first | omega | (dsimp only; omega)⟩)
        | (with_reducible refine AR.wr ?_)
        | ((with_reducible intro w3 e3); try have z3 := cutLe e3)
        | ((with_reducible intro h3); have h4 := Nat.le_of_lt h3; clear h4)))
      refine stS (i := _) o2 rfl rfl rfl k hi.symm (by rw [List.getElem?_map, hx]; rfl) (by decide) (by show w.heap.size ≤ _; omega) ⟨fun h => by have := oL _ h; simp only [bk] at this; omega, trivial⟩ (fun w5 e5 o5 => ?_)
      replace o5 : Own w5 w4.heap.size 26 5 (.slice b2 xs.length d2) ((xs.set k (setU x v)).map encFrm) := by rw [List.map_set]; exact o5
      have z5 := cutLe e5
      repeat (any_goals (
        conv => whnf
        first
        | ((with_reducible refine BIF.dec ?_ ?_) <;> intro _)
        | ((with_reducible refine BIF.s ?_ ?_) <;> intro _)
        | (with_reducible refine NEXTK.normal ?_)
        | (with_reducible refine NEXTK.ret ?_)
        | (with_reducible refine NEXTK.exit ?_)
        | (with_reducible refine SEQ.plain ?_)
        | (with_reducible refine hK _ _ ?_)
        | ((with_reducible refine RUNL.agg (fun _ => ?_) ?_); (focus kernel_rfl))
        | (with_reducible refine RUNL.run ?_)
        | ((with_reducible refine AR.ok ?_ ?_); exact ⟨by first | omega | (dsimp only; omega), by first | omega | (dsimp only; omega)⟩)
        | (with_reducible refine AR.wr ?_)
        | ((with_reducible intro w3 e3); try have z3 := cutLe e3)
        | ((with_reducible intro h3); have h4 := Nat.le_of_lt h3; clear h4)))
      intro hx'
      rw [hf]; exact ⟨_, rfl, hx', _, rfl, by simpa using o5.lo (by omega)⟩

end Go.Proofs.YthgeeocmhdpgiaaDoor

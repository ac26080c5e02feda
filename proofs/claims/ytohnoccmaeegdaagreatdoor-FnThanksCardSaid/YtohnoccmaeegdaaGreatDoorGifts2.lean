/- The sheets of a giver. -/
import Derived.Test.YtohnoccmaeegdaaGreatDoorRows
import Derived.Test.YtohnoccmaeegdaaGreatDoorGifts3
namespace Go.Proofs.YtohnoccmaeegdaaGreatDoor
open Go Go.X Go.Proofs Go.ChangeShapes Go.WideShapes Go.ChangeAt Go.RowKit
open Go.ChangeMaps (open_string shut_string)
set_option maxHeartbeats 1000000
set_option maxRecDepth 20000
set_option linter.unusedVariables false
set_option linter.unusedSimpArgs false
def sumG (g : ByteArray) : List Gft → Int
  | [] => 0
  | x :: t => (if x.fGiver = g then x.fSheets else 0) + sumG g t
theorem sumG_append (g : ByteArray) (xs ys : List Gft) : sumG g (xs ++ ys) = sumG g xs + sumG g ys := by
  induction xs with
  | nil => simp [sumG]
  | cons x t ih => simp [sumG, ih]; omega
theorem sumG_take (g : ByteArray) {xs : List Gft} {k : Nat} {x : Gft} (h : xs[k]? = some x) : sumG g (xs.take (k + 1)) = sumG g (xs.take k) + (if x.fGiver = g then x.fSheets else 0) := by
  rw [List.take_add_one, h, sumG_append]; simp [sumG]
theorem sheetsFrom_c (a : Option Addr) (n c : Nat) (xs : List Gft) (g : ByteArray) (w : World) (hr : Row w a 5 (xs.map encGft)) (hn : xs.length = n) (ho : areG xs = true) :
    Calls Tryz.prog 44 #[.slice a n c, .string g] w fun e w' => e = .returned (.int .i64 (sumG g xs)) ∧ E0 w w' := by
  have hl := areG_len ho
  refine enterK Non 24 Tryz.func44 rfl rfl rfl fun K hK => ?_
  conv => whnf
  repeat (first | ((with_reducible refine NEXTK.normal ?_); conv => whnf) | ((with_reducible refine NEXTK.exit ?_); conv => whnf) | ((with_reducible refine NEXTK.ret ?_); conv => whnf) | ((with_reducible refine SEQ.plain ?_); conv => whnf) | ((with_reducible refine AR.ok ?_ ?_); exact ⟨by omega, by omega⟩; conv => whnf))
  refine LOOP.mk (Nat × Int) (fun t => [(10, .v (.int .i64 t.1)), (5, .v (.int .i64 t.2))]) (fun t _ => t.1 ≤ n ∧ t.2 = sumG g (xs.take t.1) ∧ 0 ≤ t.2 ∧ t.2 ≤ 99 * t.1) (fun t => n - t.1) (0, 0) rfl ⟨rfl, rfl, trivial⟩ ⟨Nat.zero_le _, by simp [sumG], by simp, by simp⟩ ?_
  rintro ⟨j, s⟩ wr - ⟨hj, hs, hb0, hb1⟩
  simp only at hj hs hb0 hb1
  conv => whnf
  repeat (first | ((with_reducible refine NEXTK.normal ?_); conv => whnf) | ((with_reducible refine NEXTK.exit ?_); conv => whnf) | ((with_reducible refine NEXTK.ret ?_); conv => whnf) | ((with_reducible refine SEQ.plain ?_); conv => whnf) | ((with_reducible refine AR.ok ?_ ?_); exact ⟨by omega, by omega⟩; conv => whnf))
  refine BIF.dec (fun hlt => ?_) (fun hlt => ?_)
  · have hlt' : j < xs.length := by simp only at hlt; omega
    have his := hr.isSome (by simp; omega)
    obtain ⟨x, hx⟩ : ∃ x, xs[j]? = some x := ⟨xs[j]'(by omega), by simp⟩
    have ht := sumG_take g hx
    have hok := okG_spec (areG_at ho hx)
    by_cases hxg : x.fGiver = g
    · rw [if_pos hxg] at ht
      repeat (any_goals (
        conv => whnf
        first
        | ((with_reducible refine OBL.mk ?_ (fun _ => ?_)); exact ⟨by first | omega | (dsimp only; omega), by first | omega | (dsimp only; omega), his⟩)
        | ((with_reducible refine ELD.at (j) hr ?_ ?_ ?_ (fun x' hx' => ?_)); exact mAddr_Non _; (first | rfl | omega); exact hlt'; obtain rfl : x = x' := by (rw [hx] at hx'; exact Option.some.inj hx'))
        | ((with_reducible refine BIF.seq ?_ ?_) <;> intro hsq)
        | ((exfalso; exact hsq hxg))
        | ((with_reducible refine BIF.dec ?_ ?_) <;> intro _)
        | ((with_reducible refine BIF.s ?_ ?_) <;> intro _)
        | (with_reducible refine NEXTK.normal ?_)
        | (with_reducible refine NEXTK.ret ?_)
        | (with_reducible refine NEXTK.exit ?_)
        | (with_reducible refine SEQ.plain ?_)
        | (with_reducible refine hK _ _ ?_)
        | ((with_reducible refine RUNL.agg (fun _ => ?_) ?_); (focus kernel_rfl))
        | (with_reducible refine RUNL.run ?_)
        | ((with_reducible refine AR.ok ?_ ?_); exact ⟨by first | omega | (dsimp only; omega), by first | omega | (dsimp only; omega)⟩)
        | (with_reducible refine AR.wr ?_)
        | ((with_reducible intro w3 e3); try have z3 := cutLe e3)
        | ((with_reducible intro h3); have h4 := Nat.le_of_lt h3; clear h4)))
      refine ⟨(j + 1, s + x.fSheets), rfl, ⟨rfl, rfl, trivial⟩, rfl, rfl, ⟨by simp only; omega, by simp only; omega, by simp only; omega, by simp only; omega⟩, by simp only; omega⟩
    · rw [if_neg hxg] at ht
      repeat (any_goals (
        conv => whnf
        first
        | ((with_reducible refine OBL.mk ?_ (fun _ => ?_)); exact ⟨by first | omega | (dsimp only; omega), by first | omega | (dsimp only; omega), his⟩)
        | ((with_reducible refine ELD.at (j) hr ?_ ?_ ?_ (fun x' hx' => ?_)); exact mAddr_Non _; (first | rfl | omega); exact hlt'; obtain rfl : x = x' := by (rw [hx] at hx'; exact Option.some.inj hx'))
        | ((with_reducible refine BIF.seq ?_ ?_) <;> intro hsq)
        | ((exfalso; exact hxg hsq))
        | ((with_reducible refine BIF.dec ?_ ?_) <;> intro _)
        | ((with_reducible refine BIF.s ?_ ?_) <;> intro _)
        | (with_reducible refine NEXTK.normal ?_)
        | (with_reducible refine NEXTK.ret ?_)
        | (with_reducible refine NEXTK.exit ?_)
        | (with_reducible refine SEQ.plain ?_)
        | (with_reducible refine hK _ _ ?_)
        | ((with_reducible refine RUNL.agg (fun _ => ?_) ?_); (focus kernel_rfl))
        | (with_reducible refine RUNL.run ?_)
        | ((with_reducible refine AR.ok ?_ ?_); exact ⟨by first | omega | (dsimp only; omega), by first | omega | (dsimp only; omega)⟩)
        | (with_reducible refine AR.wr ?_)
        | ((with_reducible intro w3 e3); try have z3 := cutLe e3)
        | ((with_reducible intro h3); have h4 := Nat.le_of_lt h3; clear h4)))
      refine ⟨(j + 1, s), rfl, ⟨rfl, rfl, trivial⟩, rfl, rfl, ⟨by simp only; omega, by simp only; omega, by simp only; omega, by simp only; omega⟩, by simp only; omega⟩
  · have hkj : j = xs.length := by simp only at hlt; omega
    rw [hkj, List.take_length] at hs
    repeat (any_goals (
      conv => whnf
      first
      | ((with_reducible refine BIF.dec ?_ ?_) <;> intro _)
      | ((with_reducible refine BIF.s ?_ ?_) <;> intro _)
      | (with_reducible refine NEXTK.normal ?_)
      | (with_reducible refine NEXTK.ret ?_)
      | (with_reducible refine NEXTK.exit ?_)
      | (with_reducible refine SEQ.plain ?_)
      | (with_reducible refine hK _ _ ?_)
      | ((with_reducible refine RUNL.agg (fun _ => ?_) ?_); (focus kernel_rfl))
      | (with_reducible refine RUNL.run ?_)
      | ((with_reducible refine AR.ok ?_ ?_); exact ⟨by first | omega | (dsimp only; omega), by first | omega | (dsimp only; omega)⟩)
      | (with_reducible refine AR.wr ?_)
      | ((with_reducible intro w3 e3); try have z3 := cutLe e3)
      | ((with_reducible intro h3); have h4 := Nat.le_of_lt h3; clear h4)))
    intro hx
    refine ⟨?_, hx⟩
    rw [← hs]; rfl
theorem l26Sum_c (a : Option Addr) (n c : Nat) (xs : List Gft) (g : ByteArray) (w : World) (hr : Row w a 5 (xs.map encGft)) (hn : xs.length = n) (ho : areG xs = true) :
    Calls Tryz.prog 47 #[.slice a n c, .string g] w fun e w' => e = .returned (.int .i64 (sumG g xs)) ∧ E0 w w' := by
  have hl := areG_len ho
  refine enterK Non 28 Tryz.func47 rfl rfl rfl fun K hK => ?_
  conv => whnf
  repeat (first | ((with_reducible refine NEXTK.normal ?_); conv => whnf) | ((with_reducible refine NEXTK.exit ?_); conv => whnf) | ((with_reducible refine NEXTK.ret ?_); conv => whnf) | ((with_reducible refine SEQ.plain ?_); conv => whnf) | ((with_reducible refine AR.ok ?_ ?_); exact ⟨by omega, by omega⟩; conv => whnf))
  refine LOOP.mk (Nat × Int) (fun t => [(6, .v (.int .i64 t.1)), (5, .v (.int .i64 t.2))]) (fun t _ => t.1 ≤ n ∧ t.2 = sumG g (xs.take t.1) ∧ 0 ≤ t.2 ∧ t.2 ≤ 99 * t.1) (fun t => n - t.1) (0, 0) rfl ⟨rfl, rfl, trivial⟩ ⟨Nat.zero_le _, by simp [sumG], by simp, by simp⟩ ?_
  rintro ⟨j, s⟩ wr - ⟨hj, hs, hb0, hb1⟩
  simp only at hj hs hb0 hb1
  conv => whnf
  repeat (first | ((with_reducible refine NEXTK.normal ?_); conv => whnf) | ((with_reducible refine NEXTK.exit ?_); conv => whnf) | ((with_reducible refine NEXTK.ret ?_); conv => whnf) | ((with_reducible refine SEQ.plain ?_); conv => whnf) | ((with_reducible refine AR.ok ?_ ?_); exact ⟨by omega, by omega⟩; conv => whnf))
  refine BIF.dec (fun hlt => ?_) (fun hlt => ?_)
  · have hlt' : j < xs.length := by simp only at hlt; omega
    have his := hr.isSome (by simp; omega)
    obtain ⟨x, hx⟩ : ∃ x, xs[j]? = some x := ⟨xs[j]'(by omega), by simp⟩
    have ht := sumG_take g hx
    have hok := okG_spec (areG_at ho hx)
    by_cases hxg : x.fGiver = g
    · rw [if_pos hxg] at ht
      repeat (any_goals (
        conv => whnf
        first
        | ((with_reducible refine OBL.mk ?_ (fun _ => ?_)); exact ⟨by first | omega | (dsimp only; omega), by first | omega | (dsimp only; omega), his⟩)
        | ((with_reducible refine ELD.at (j) hr ?_ ?_ ?_ (fun x' hx' => ?_)); exact mAddr_Non _; (first | rfl | omega); exact hlt'; obtain rfl : x = x' := by (rw [hx] at hx'; exact Option.some.inj hx'))
        | ((with_reducible refine BIF.seq ?_ ?_) <;> intro hsq)
        | ((exfalso; exact hsq hxg))
        | ((with_reducible refine BIF.dec ?_ ?_) <;> intro _)
        | ((with_reducible refine BIF.s ?_ ?_) <;> intro _)
        | (with_reducible refine NEXTK.normal ?_)
        | (with_reducible refine NEXTK.ret ?_)
        | (with_reducible refine NEXTK.exit ?_)
        | (with_reducible refine SEQ.plain ?_)
        | (with_reducible refine hK _ _ ?_)
        | ((with_reducible refine RUNL.agg (fun _ => ?_) ?_); (focus kernel_rfl))
        | (with_reducible refine RUNL.run ?_)
        | ((with_reducible refine AR.ok ?_ ?_); exact ⟨by first | omega | (dsimp only; omega), by first | omega | (dsimp only; omega)⟩)
        | (with_reducible refine AR.wr ?_)
        | ((with_reducible intro w3 e3); try have z3 := cutLe e3)
        | ((with_reducible intro h3); have h4 := Nat.le_of_lt h3; clear h4)))
      refine ⟨(j + 1, s + x.fSheets), rfl, ⟨rfl, rfl, trivial⟩, rfl, rfl, ⟨by simp only; omega, by simp only; omega, by simp only; omega, by simp only; omega⟩, by simp only; omega⟩
    · rw [if_neg hxg] at ht
      repeat (any_goals (
        conv => whnf
        first
        | ((with_reducible refine OBL.mk ?_ (fun _ => ?_)); exact ⟨by first | omega | (dsimp only; omega), by first | omega | (dsimp only; omega), his⟩)
        | ((with_reducible refine ELD.at (j) hr ?_ ?_ ?_ (fun x' hx' => ?_)); exact mAddr_Non _; (first | rfl | omega); exact hlt'; obtain rfl : x = x' := by (rw [hx] at hx'; exact Option.some.inj hx'))
        | ((with_reducible refine BIF.seq ?_ ?_) <;> intro hsq)
        | ((exfalso; exact hxg hsq))
        | ((with_reducible refine BIF.dec ?_ ?_) <;> intro _)
        | ((with_reducible refine BIF.s ?_ ?_) <;> intro _)
        | (with_reducible refine NEXTK.normal ?_)
        | (with_reducible refine NEXTK.ret ?_)
        | (with_reducible refine NEXTK.exit ?_)
        | (with_reducible refine SEQ.plain ?_)
        | (with_reducible refine hK _ _ ?_)
        | ((with_reducible refine RUNL.agg (fun _ => ?_) ?_); (focus kernel_rfl))
        | (with_reducible refine RUNL.run ?_)
        | ((with_reducible refine AR.ok ?_ ?_); exact ⟨by first | omega | (dsimp only; omega), by first | omega | (dsimp only; omega)⟩)
        | (with_reducible refine AR.wr ?_)
        | ((with_reducible intro w3 e3); try have z3 := cutLe e3)
        | ((with_reducible intro h3); have h4 := Nat.le_of_lt h3; clear h4)))
      refine ⟨(j + 1, s), rfl, ⟨rfl, rfl, trivial⟩, rfl, rfl, ⟨by simp only; omega, by simp only; omega, by simp only; omega, by simp only; omega⟩, by simp only; omega⟩
  · have hkj : j = xs.length := by simp only at hlt; omega
    rw [hkj, List.take_length] at hs
    repeat (any_goals (
      conv => whnf
      first
      | ((with_reducible refine BIF.dec ?_ ?_) <;> intro _)
      | ((with_reducible refine BIF.s ?_ ?_) <;> intro _)
      | (with_reducible refine NEXTK.normal ?_)
      | (with_reducible refine NEXTK.ret ?_)
      | (with_reducible refine NEXTK.exit ?_)
      | (with_reducible refine SEQ.plain ?_)
      | (with_reducible refine hK _ _ ?_)
      | ((with_reducible refine RUNL.agg (fun _ => ?_) ?_); (focus kernel_rfl))
      | (with_reducible refine RUNL.run ?_)
      | ((with_reducible refine AR.ok ?_ ?_); exact ⟨by first | omega | (dsimp only; omega), by first | omega | (dsimp only; omega)⟩)
      | (with_reducible refine AR.wr ?_)
      | ((with_reducible intro w3 e3); try have z3 := cutLe e3)
      | ((with_reducible intro h3); have h4 := Nat.le_of_lt h3; clear h4)))
    intro hx
    refine ⟨?_, hx⟩
    rw [← hs]; rfl
def sheetsP (xs : List Gft) (g : ByteArray) : Int × Bool := if areG xs && okW g then (sumG g xs, true) else (0, false)
theorem SheetsFrom_c (a : Option Addr) (n c : Nat) (xs : List Gft) (g : ByteArray) (w : World) (hr : Row w a 5 (xs.map encGft)) (hn : xs.length = n) (hm : n ≤ 1048577) :
    Calls Tryz.prog 17 #[.slice a n c, .string g] w fun e w' => e = .returned (.tuple #[.int .i64 (sheetsP xs g).1, .bool (sheetsP xs g).2]) ∧ E0 w w' := by
  refine enterK Non 17 Tryz.func17 rfl rfl rfl fun K hK => ?_
  by_cases ho : areG xs = true ∧ okW g = true
  · have hf : sheetsP xs g = (sumG g xs, true) := by simp [sheetsP, ho]
    repeat (any_goals (
      conv => whnf
      first
      | ((with_reducible refine callF (g := 26) ?_ ?_); kernel_rfl; refine ⟨_, AreGifts_c _ _ _ xs _ (by repeat (first | assumption | refine Row.e0 ?_ (by assumption))) hn (by omega), ?_⟩; intro w4 e4; have z4 := cutLe e4)
      | ((with_reducible refine callF (g := 27) ?_ ?_); kernel_rfl; refine ⟨_, isWord_c _ _, ?_⟩; intro w4 e4; have z4 := cutLe e4)
      | ((exfalso; clear hK; simp_all; done))
      | ((with_reducible refine callF (g := 44) ?_ ?_); kernel_rfl; refine ⟨_, sheetsFrom_c _ _ _ xs _ _ (by repeat (first | assumption | refine Row.e0 ?_ (by assumption))) hn ho.1, ?_⟩; intro w4 e4; have z4 := cutLe e4)
      | ((with_reducible refine BIF.dec ?_ ?_) <;> intro _)
      | ((with_reducible refine BIF.s ?_ ?_) <;> intro _)
      | (with_reducible refine NEXTK.normal ?_)
      | (with_reducible refine NEXTK.ret ?_)
      | (with_reducible refine NEXTK.exit ?_)
      | (with_reducible refine SEQ.plain ?_)
      | (with_reducible refine hK _ _ ?_)
      | ((with_reducible refine RUNL.agg (fun _ => ?_) ?_); (focus kernel_rfl))
      | (with_reducible refine RUNL.run ?_)
      | ((with_reducible refine AR.ok ?_ ?_); exact ⟨by first | omega | (dsimp only; omega), by first | omega | (dsimp only; omega)⟩)
      | (with_reducible refine AR.wr ?_)
      | ((with_reducible intro w3 e3); try have z3 := cutLe e3)
      | ((with_reducible intro h3); have h4 := Nat.le_of_lt h3; clear h4)))
    intro hx
    rw [hf]
    exact ⟨rfl, hx⟩
  · have hf : sheetsP xs g = (0, false) := by
      unfold sheetsP
      rw [if_neg]
      simpa using ho
    repeat (any_goals (
      conv => whnf
      first
      | ((with_reducible refine callF (g := 26) ?_ ?_); kernel_rfl; refine ⟨_, AreGifts_c _ _ _ xs _ (by repeat (first | assumption | refine Row.e0 ?_ (by assumption))) hn (by omega), ?_⟩; intro w4 e4; have z4 := cutLe e4)
      | ((with_reducible refine callF (g := 27) ?_ ?_); kernel_rfl; refine ⟨_, isWord_c _ _, ?_⟩; intro w4 e4; have z4 := cutLe e4)
      | ((exfalso; clear hK; simp_all; done))
      | ((with_reducible refine BIF.dec ?_ ?_) <;> intro _)
      | ((with_reducible refine BIF.s ?_ ?_) <;> intro _)
      | (with_reducible refine NEXTK.normal ?_)
      | (with_reducible refine NEXTK.ret ?_)
      | (with_reducible refine NEXTK.exit ?_)
      | (with_reducible refine SEQ.plain ?_)
      | (with_reducible refine hK _ _ ?_)
      | ((with_reducible refine RUNL.agg (fun _ => ?_) ?_); (focus kernel_rfl))
      | (with_reducible refine RUNL.run ?_)
      | ((with_reducible refine AR.ok ?_ ?_); exact ⟨by first | omega | (dsimp only; omega), by first | omega | (dsimp only; omega)⟩)
      | (with_reducible refine AR.wr ?_)
      | ((with_reducible intro w3 e3); try have z3 := cutLe e3)
      | ((with_reducible intro h3); have h4 := Nat.le_of_lt h3; clear h4)))
    all_goals
      intro hx
      rw [hf]
      exact ⟨rfl, hx⟩
theorem SheetsFromS_c (a : Option Addr) (n c : Nat) (xs : List Gft) (g : ByteArray) (w : World) (hr : Row w a 5 (xs.map encGft)) (hn : xs.length = n) (hm : n ≤ 1048577) (hg : ∀ x ∈ xs, x.fGiver.size ≤ 9223372036854775807) (hgs : g.size ≤ 9223372036854775807) :
    Calls Tryz.prog 22 #[.slice a n c, .string g] w fun e w' => e = .returned (.tuple #[.int .i64 (sheetsP xs g).1, .bool (sheetsP xs g).2]) ∧ E0 w w' := by
  refine enterK Non 17 Tryz.func22 rfl rfl rfl fun K hK => ?_
  by_cases ho : areG xs = true ∧ okW g = true
  · have hf : sheetsP xs g = (sumG g xs, true) := by simp [sheetsP, ho]
    repeat (any_goals (
      conv => whnf
      first
      | ((with_reducible refine callF (g := 30) ?_ ?_); kernel_rfl; refine ⟨_, l26Good_c _ _ _ xs _ (by repeat (first | assumption | refine Row.e0 ?_ (by assumption))) hn (by omega) hg, ?_⟩; intro w4 e4; have z4 := cutLe e4)
      | ((with_reducible refine callF (g := 31) ?_ ?_); kernel_rfl; refine ⟨_, l2Word_c _ _ hgs, ?_⟩; intro w4 e4; have z4 := cutLe e4)
      | ((exfalso; clear hK; simp_all; done))
      | ((with_reducible refine callF (g := 47) ?_ ?_); kernel_rfl; refine ⟨_, l26Sum_c _ _ _ xs _ _ (by repeat (first | assumption | refine Row.e0 ?_ (by assumption))) hn ho.1, ?_⟩; intro w4 e4; have z4 := cutLe e4)
      | ((with_reducible refine BIF.dec ?_ ?_) <;> intro _)
      | ((with_reducible refine BIF.s ?_ ?_) <;> intro _)
      | (with_reducible refine NEXTK.normal ?_)
      | (with_reducible refine NEXTK.ret ?_)
      | (with_reducible refine NEXTK.exit ?_)
      | (with_reducible refine SEQ.plain ?_)
      | (with_reducible refine hK _ _ ?_)
      | ((with_reducible refine RUNL.agg (fun _ => ?_) ?_); (focus kernel_rfl))
      | (with_reducible refine RUNL.run ?_)
      | ((with_reducible refine AR.ok ?_ ?_); exact ⟨by first | omega | (dsimp only; omega), by first | omega | (dsimp only; omega)⟩)
      | (with_reducible refine AR.wr ?_)
      | ((with_reducible intro w3 e3); try have z3 := cutLe e3)
      | ((with_reducible intro h3); have h4 := Nat.le_of_lt h3; clear h4)))
    intro hx
    rw [hf]
    exact ⟨rfl, hx⟩
  · have hf : sheetsP xs g = (0, false) := by
      unfold sheetsP
      rw [if_neg]
      simpa using ho
    repeat (any_goals (
      conv => whnf
      first
      | ((with_reducible refine callF (g := 30) ?_ ?_); kernel_rfl; refine ⟨_, l26Good_c _ _ _ xs _ (by repeat (first | assumption | refine Row.e0 ?_ (by assumption))) hn (by omega) hg, ?_⟩; intro w4 e4; have z4 := cutLe e4)
      | ((with_reducible refine callF (g := 31) ?_ ?_); kernel_rfl; refine ⟨_, l2Word_c _ _ hgs, ?_⟩; intro w4 e4; have z4 := cutLe e4)
      | ((exfalso; clear hK; simp_all; done))
      | ((with_reducible refine BIF.dec ?_ ?_) <;> intro _)
      | ((with_reducible refine BIF.s ?_ ?_) <;> intro _)
      | (with_reducible refine NEXTK.normal ?_)
      | (with_reducible refine NEXTK.ret ?_)
      | (with_reducible refine NEXTK.exit ?_)
      | (with_reducible refine SEQ.plain ?_)
      | (with_reducible refine hK _ _ ?_)
      | ((with_reducible refine RUNL.agg (fun _ => ?_) ?_); (focus kernel_rfl))
      | (with_reducible refine RUNL.run ?_)
      | ((with_reducible refine AR.ok ?_ ?_); exact ⟨by first | omega | (dsimp only; omega), by first | omega | (dsimp only; omega)⟩)
      | (with_reducible refine AR.wr ?_)
      | ((with_reducible intro w3 e3); try have z3 := cutLe e3)
      | ((with_reducible intro h3); have h4 := Nat.le_of_lt h3; clear h4)))
    all_goals
      intro hx
      rw [hf]
      exact ⟨rfl, hx⟩

end Go.Proofs.YtohnoccmaeegdaaGreatDoor

/- The functions on lists of orders compute what the plain functions say. -/
import Derived.Test.YtlhlbgnhnkfmgaaDoorRows
import Derived.Test.YtlhlbgnhnkfmgaaDoorBase
namespace Go.Proofs.YtlhlbgnhnkfmgaaDoor
open Go Go.X Go.Proofs Go.ChangeShapes Go.WideShapes Go.ChangeAt Go.RowKit
open Go.ChangeMaps (open_string shut_string)
set_option maxHeartbeats 1000000
set_option maxRecDepth 20000
set_option linter.unusedVariables false
set_option linter.unusedSimpArgs false
def okO (x : Ord) : Bool := inB x.fId 1 99 && inB x.fReader 1 999 && inB x.fPages 1 50 && inB x.fPlaced 0 4000 && (x.fReady == -1 || inB x.fReady 0 4000 && decide (x.fPlaced ≤ x.fReady))
def okAt (xs : List Ord) (k : Nat) : Bool :=
  match xs[k]? with
  | some x => okO x && (k == 0 || (match xs[k - 1]? with
      | some y => decide (y.fId < x.fId) && decide (y.fPlaced ≤ x.fPlaced)
      | none => true))
  | none => true
def okUpto (xs : List Ord) (k : Nat) : Bool := (List.range k).all (okAt xs)
theorem okUpto_succ (xs : List Ord) (k : Nat) : okUpto xs (k + 1) = (okUpto xs k && okAt xs k) := by simp [okUpto, List.range_succ]
def areO (xs : List Ord) : Bool := okUpto xs xs.length && decide (xs.length ≤ 12)
theorem areO_false {xs : List Ord} {k : Nat} (hk : k < xs.length) (h : okAt xs k = false) : areO xs = false := by
  simp only [areO, okUpto, Bool.and_eq_false_iff]
  left
  rw [List.all_eq_false]
  exact ⟨k, by simpa using hk, by simp [h]⟩
theorem isOrder_c (x : Ord) (w : World) : Calls Tryd.prog 25 #[.agg (encOrd x).toArray] w fun e w' => e = .returned (.bool (okO x)) ∧ E0 w w' := by
  refine enterK Non 40 Tryd.func25 rfl rfl rfl fun K hK => ?_
  repeat (any_goals (
    conv => whnf
    first
    | ((with_reducible refine callF (g := 50) ?_ ?_); kernel_rfl; refine ⟨_, within_c _ _ _ _, ?_⟩; intro w4 e4; have z4 := cutLe e4)
    | ((with_reducible refine callF (g := 42) ?_ ?_); kernel_rfl; refine ⟨_, isDay_c _ _, ?_⟩; intro w4 e4; have z4 := cutLe e4)
    | ((with_reducible refine callF (g := 51) ?_ ?_); kernel_rfl; refine ⟨_, isId_c _ _, ?_⟩; intro w4 e4; have z4 := cutLe e4)
    | ((with_reducible refine BIF.dec ?_ ?_) <;> intro _)
    | ((with_reducible refine BIF.s ?_ ?_) <;> intro _)
    | (with_reducible refine NEXTK.normal ?_)
    | (with_reducible refine NEXTK.ret ?_)
    | (with_reducible refine NEXTK.exit ?_)
    | (with_reducible refine SEQ.plain ?_)
    | (with_reducible refine hK _ _ ?_)
    | ((with_reducible refine RUNL.agg (fun _ => ?_) ?_); (focus kernel_rfl))
    | (with_reducible refine RUNL.run ?_)
    | ((with_reducible refine AR.ok ?_ ?_); exact ⟨by first | omega | (dsimp only; omega), by first | omega | (dsimp only; omega)⟩)
    | (with_reducible refine AR.wr ?_)
    | ((with_reducible intro w3 e3); try have z3 := cutLe e3)
    | ((with_reducible intro h3); have h4 := Nat.le_of_lt h3; clear h4)))
  all_goals
    intro hx
    refine ⟨?_, hx⟩
    simp_all [okO, resV]
theorem l28One_c (x : Ord) (w : World) : Calls Tryd.prog 23 #[.agg (encOrd x).toArray] w fun e w' => e = .returned (.bool (okO x)) ∧ E0 w w' := by
  refine enterK Non 38 Tryd.func23 rfl rfl rfl fun K hK => ?_
  repeat (any_goals (
    conv => whnf
    first
    | ((with_reducible refine callF (g := 49) ?_ ?_); kernel_rfl; refine ⟨_, l1In_c _ _ _ _, ?_⟩; intro w4 e4; have z4 := cutLe e4)
    | ((with_reducible refine callF (g := 33) ?_ ?_); kernel_rfl; refine ⟨_, l2Day_c _ _, ?_⟩; intro w4 e4; have z4 := cutLe e4)
    | ((with_reducible refine BIF.dec ?_ ?_) <;> intro _)
    | ((with_reducible refine BIF.s ?_ ?_) <;> intro _)
    | (with_reducible refine NEXTK.normal ?_)
    | (with_reducible refine NEXTK.ret ?_)
    | (with_reducible refine NEXTK.exit ?_)
    | (with_reducible refine SEQ.plain ?_)
    | (with_reducible refine hK _ _ ?_)
    | ((with_reducible refine RUNL.agg (fun _ => ?_) ?_); (focus kernel_rfl))
    | (with_reducible refine RUNL.run ?_)
    | ((with_reducible refine AR.ok ?_ ?_); exact ⟨by first | omega | (dsimp only; omega), by first | omega | (dsimp only; omega)⟩)
    | (with_reducible refine AR.wr ?_)
    | ((with_reducible intro w3 e3); try have z3 := cutLe e3)
    | ((with_reducible intro h3); have h4 := Nat.le_of_lt h3; clear h4)))
  all_goals
    intro hx
    refine ⟨?_, hx⟩
    simp_all [okO, resV]
theorem AreOrders_c (a : Option Addr) (n c : Nat) (xs : List Ord) (w : World) (hr : Row w a 5 (xs.map encOrd)) (hn : xs.length = n) (hm : n ≤ 4611686018427387904) :
    Calls Tryd.prog 28 #[.slice a n c] w fun e w' => e = .returned (.bool (areO xs)) ∧ E0 w w' := by
  refine enterK Non 45 Tryd.func28 rfl rfl rfl fun K hK => ?_
  conv => whnf
  repeat (first | ((with_reducible refine NEXTK.normal ?_); conv => whnf) | ((with_reducible refine NEXTK.exit ?_); conv => whnf) | ((with_reducible refine NEXTK.ret ?_); conv => whnf) | ((with_reducible refine SEQ.plain ?_); conv => whnf) | ((with_reducible refine AR.ok ?_ ?_); exact ⟨by omega, by omega⟩; conv => whnf))
  refine LOOP.mk Nat (fun k => [(7, .v (.int .i64 k))]) (fun k _ => k ≤ n ∧ okUpto xs k = true) (fun k => n - k) 0 rfl ⟨rfl, trivial⟩ ⟨Nat.zero_le _, rfl⟩ ?_
  rintro k wr - ⟨hk, hok⟩
  conv => whnf
  repeat (first | ((with_reducible refine NEXTK.normal ?_); conv => whnf) | ((with_reducible refine NEXTK.exit ?_); conv => whnf) | ((with_reducible refine NEXTK.ret ?_); conv => whnf) | ((with_reducible refine SEQ.plain ?_); conv => whnf) | ((with_reducible refine AR.ok ?_ ?_); exact ⟨by omega, by omega⟩; conv => whnf))
  refine BIF.dec (fun hlt => ?_) (fun hlt => ?_)
  · have hlt' : k < xs.length := by omega
    have hs := hr.isSome (by simp; omega)
    conv => whnf
    repeat (first | ((with_reducible refine NEXTK.normal ?_); conv => whnf) | ((with_reducible refine NEXTK.exit ?_); conv => whnf) | ((with_reducible refine NEXTK.ret ?_); conv => whnf) | ((with_reducible refine SEQ.plain ?_); conv => whnf) | ((with_reducible refine AR.ok ?_ ?_); exact ⟨by omega, by omega⟩; conv => whnf))
    refine OBL.mk ⟨by omega, by omega, hs⟩ (fun _ => ?_)
    conv => whnf
    repeat (first | ((with_reducible refine NEXTK.normal ?_); conv => whnf) | ((with_reducible refine NEXTK.exit ?_); conv => whnf) | ((with_reducible refine NEXTK.ret ?_); conv => whnf) | ((with_reducible refine SEQ.plain ?_); conv => whnf) | ((with_reducible refine AR.ok ?_ ?_); exact ⟨by omega, by omega⟩; conv => whnf))
    refine ELD.at k hr (mAddr_Non _) rfl hlt' (fun x hx => ?_)
    conv => whnf
    intro w1 e1 _
    conv => whnf
    intro w2 e2
    conv => whnf
    repeat (first | ((with_reducible refine NEXTK.normal ?_); conv => whnf) | ((with_reducible refine NEXTK.exit ?_); conv => whnf) | ((with_reducible refine NEXTK.ret ?_); conv => whnf) | ((with_reducible refine SEQ.plain ?_); conv => whnf) | ((with_reducible refine AR.ok ?_ ?_); exact ⟨by omega, by omega⟩; conv => whnf))
    refine DRAW.quiet (by kernel_rfl) (by kernel_rfl) ?_
    repeat (any_goals (
      conv => whnf
      first
      | ((with_reducible refine callQ (g := 25) ?_ ?_); kernel_rfl; refine ⟨_, fun w' _ => isOrder_c x w', ?_⟩)
      | ((with_reducible refine OBL.mk ?_ (fun _ => ?_)); exact ⟨by omega, by omega, hs⟩)
      | ((with_reducible refine ELD.at (k - 1) hr ?_ ?_ ?_ (fun y hy => ?_)); exact mAddr_Non _; omega; omega)
      | ((with_reducible refine BIF.dec ?_ ?_) <;> intro _)
      | ((with_reducible refine BIF.s ?_ ?_) <;> intro _)
      | (with_reducible refine NEXTK.normal ?_)
      | (with_reducible refine NEXTK.ret ?_)
      | (with_reducible refine NEXTK.exit ?_)
      | (with_reducible refine SEQ.plain ?_)
      | (with_reducible refine hK _ _ ?_)
      | ((with_reducible refine RUNL.agg (fun _ => ?_) ?_); (focus kernel_rfl))
      | (with_reducible refine RUNL.run ?_)
      | ((with_reducible refine AR.ok ?_ ?_); exact ⟨by first | omega | (dsimp only; omega), by first | omega | (dsimp only; omega)⟩)
      | (with_reducible refine AR.wr ?_)
      | ((with_reducible intro w3 e3); try have z3 := cutLe e3)
      | ((with_reducible intro h3); have h4 := Nat.le_of_lt h3; clear h4)))
    all_goals first
      | (intro hx'
         refine ⟨?_, hx'⟩
         rw [areO_false hlt' (by simp_all [okAt]; try omega)]; rfl)
      | (refine ⟨k + 1, rfl, ⟨rfl, trivial⟩, rfl, rfl, ⟨by omega, ?_⟩, by omega⟩
         rw [okUpto_succ, hok]
         simp_all [okAt]; try omega)
  · have hkn : k = xs.length := by omega
    conv => whnf
    repeat (first | ((with_reducible refine NEXTK.normal ?_); conv => whnf) | ((with_reducible refine NEXTK.exit ?_); conv => whnf) | ((with_reducible refine NEXTK.ret ?_); conv => whnf) | ((with_reducible refine SEQ.plain ?_); conv => whnf) | ((with_reducible refine AR.ok ?_ ?_); exact ⟨by omega, by omega⟩; conv => whnf))
    refine hK _ _ ?_
    conv => whnf
    intro hx'
    refine ⟨?_, hx'⟩
    rw [areO, ← hkn, hok]
    simp [resV]; omega
theorem l28Good_c (a : Option Addr) (n c : Nat) (xs : List Ord) (w : World) (hr : Row w a 5 (xs.map encOrd)) (hn : xs.length = n) (hm : n ≤ 4611686018427387904) :
    Calls Tryd.prog 32 #[.slice a n c] w fun e w' => e = .returned (.bool (areO xs)) ∧ E0 w w' := by
  refine enterK Non 51 Tryd.func32 rfl rfl rfl fun K hK => ?_
  conv => whnf
  repeat (first | ((with_reducible refine NEXTK.normal ?_); conv => whnf) | ((with_reducible refine NEXTK.exit ?_); conv => whnf) | ((with_reducible refine NEXTK.ret ?_); conv => whnf) | ((with_reducible refine SEQ.plain ?_); conv => whnf) | ((with_reducible refine AR.ok ?_ ?_); exact ⟨by omega, by omega⟩; conv => whnf))
  refine LOOP.mk Nat (fun k => [(3, .v (.int .i64 k))]) (fun k _ => k ≤ n ∧ okUpto xs k = true) (fun k => n - k) 0 rfl ⟨rfl, trivial⟩ ⟨Nat.zero_le _, rfl⟩ ?_
  rintro k wr - ⟨hk, hok⟩
  conv => whnf
  repeat (first | ((with_reducible refine NEXTK.normal ?_); conv => whnf) | ((with_reducible refine NEXTK.exit ?_); conv => whnf) | ((with_reducible refine NEXTK.ret ?_); conv => whnf) | ((with_reducible refine SEQ.plain ?_); conv => whnf) | ((with_reducible refine AR.ok ?_ ?_); exact ⟨by omega, by omega⟩; conv => whnf))
  refine BIF.dec (fun hlt => ?_) (fun hlt => ?_)
  · have hlt' : k < xs.length := by omega
    have hs := hr.isSome (by simp; omega)
    obtain ⟨x, hx⟩ : ∃ x, xs[k]? = some x := ⟨xs[k], by simp [hlt']⟩
    conv => whnf
    repeat (first | ((with_reducible refine NEXTK.normal ?_); conv => whnf) | ((with_reducible refine NEXTK.exit ?_); conv => whnf) | ((with_reducible refine NEXTK.ret ?_); conv => whnf) | ((with_reducible refine SEQ.plain ?_); conv => whnf) | ((with_reducible refine AR.ok ?_ ?_); exact ⟨by omega, by omega⟩; conv => whnf))
    refine DRAW.quiet (by kernel_rfl) (by kernel_rfl) ?_
    repeat (any_goals (
      conv => whnf
      first
      | ((with_reducible refine callQ (g := 23) ?_ ?_); kernel_rfl; refine ⟨_, fun w' _ => l28One_c _ w', ?_⟩)
      | ((with_reducible refine OBL.mk ?_ (fun _ => ?_)); exact ⟨by omega, by omega, hs⟩)
      | ((with_reducible refine ELD.at k hr ?_ rfl ?_ (fun x' hx' => ?_)); exact mAddr_Non _; exact hlt'; obtain rfl : x = x' := by (rw [hx] at hx'; exact Option.some.inj hx'))
      | ((with_reducible refine ELD.at (k - 1) hr ?_ ?_ ?_ (fun y hy => ?_)); exact mAddr_Non _; omega; omega)
      | ((with_reducible refine BIF.dec ?_ ?_) <;> intro _)
      | ((with_reducible refine BIF.s ?_ ?_) <;> intro _)
      | (with_reducible refine NEXTK.normal ?_)
      | (with_reducible refine NEXTK.ret ?_)
      | (with_reducible refine NEXTK.exit ?_)
      | (with_reducible refine SEQ.plain ?_)
      | (with_reducible refine hK _ _ ?_)
      | ((with_reducible refine RUNL.agg (fun _ => ?_) ?_); (focus kernel_rfl))
      | (with_reducible refine RUNL.run ?_)
      | ((with_reducible refine AR.ok ?_ ?_); exact ⟨by first | omega | (dsimp only; omega), by first | omega | (dsimp only; omega)⟩)
      | (with_reducible refine AR.wr ?_)
      | ((with_reducible intro w3 e3); try have z3 := cutLe e3)
      | ((with_reducible intro h3); have h4 := Nat.le_of_lt h3; clear h4)))
    all_goals first
      | (intro hx'
         refine ⟨?_, hx'⟩
         rw [areO_false hlt' (by simp_all [okAt]; try omega)]; rfl)
      | (refine ⟨k + 1, rfl, ⟨rfl, trivial⟩, rfl, rfl, ⟨by omega, ?_⟩, by omega⟩
         rw [okUpto_succ, hok]
         simp_all [okAt]; try omega)
  · have hkn : k = xs.length := by omega
    conv => whnf
    repeat (first | ((with_reducible refine NEXTK.normal ?_); conv => whnf) | ((with_reducible refine NEXTK.exit ?_); conv => whnf) | ((with_reducible refine NEXTK.ret ?_); conv => whnf) | ((with_reducible refine SEQ.plain ?_); conv => whnf) | ((with_reducible refine AR.ok ?_ ?_); exact ⟨by omega, by omega⟩; conv => whnf))
    refine hK _ _ ?_
    conv => whnf
    intro hx'
    refine ⟨?_, hx'⟩
    rw [areO, ← hkn, hok]
    simp [resV]; omega

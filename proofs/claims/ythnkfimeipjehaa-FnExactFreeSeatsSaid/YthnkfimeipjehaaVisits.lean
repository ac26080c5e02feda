/- The functions on lists of visits compute what the plain functions say. -/
import Derived.Test.YthnkfimeipjehaaRows
import Derived.Test.YthnkfimeipjehaaBase
namespace Go.Proofs.Ythnkfimeipjehaa
open Go Go.X Go.Proofs Go.ChangeShapes Go.WideShapes Go.ChangeAt Go.RowKit
open Go.ChangeMaps (open_string shut_string)
set_option maxHeartbeats 1000000
set_option maxRecDepth 20000
set_option linter.unusedVariables false
set_option linter.unusedSimpArgs false
def okV (v : Vis) : Bool := inB v.fReader 1 999 && inB v.fSeat 1 6 && timeB v.fFrom v.fUntil
def meetV (v : Vis) (a b : Int) : Bool := decide (v.fFrom < b) && decide (a < v.fUntil)
def clashV (x y : Vis) : Bool := meetV y x.fFrom x.fUntil && (decide (y.fSeat = x.fSeat) || decide (y.fReader = x.fReader))
def vAt (xs : List Vis) (k : Nat) : Bool :=
  match xs[k]? with
  | some x => okV x && (k == 0 || (match xs[k - 1]? with
      | some y => decide (y.fFrom ≤ x.fFrom)
      | none => true)) && !((xs.take k).any (clashV x))
  | none => true
def vUpto (xs : List Vis) (k : Nat) : Bool := (List.range k).all (vAt xs)
theorem vUpto_succ (xs : List Vis) (k : Nat) : vUpto xs (k + 1) = (vUpto xs k && vAt xs k) := by simp [vUpto, List.range_succ]
def areV (xs : List Vis) : Bool := vUpto xs xs.length && decide (xs.length ≤ 15)
theorem areV_false {xs : List Vis} {k : Nat} (hk : k < xs.length) (h : vAt xs k = false) : areV xs = false := by
  simp only [areV, vUpto, Bool.and_eq_false_iff]
  left
  rw [List.all_eq_false]
  exact ⟨k, by simpa using hk, by simp [h]⟩
theorem isVisit_c (x : Vis) (w : World) : Calls Try.prog 24 #[.agg (encVis x).toArray] w fun e w' => e = .returned (.bool (okV x)) ∧ E0 w w' := by
  refine enterK Non 18 Try.func24 rfl rfl rfl fun K hK => ?_
  repeat (any_goals (
    conv => whnf
    first
    | ((with_reducible refine callF (g := 34) ?_ ?_); kernel_rfl; refine ⟨_, isId_c _ _, ?_⟩; intro w4 e4; have z4 := cutLe e4)
    | ((with_reducible refine callF (g := 29) ?_ ?_); kernel_rfl; refine ⟨_, isSeat_c _ _, ?_⟩; intro w4 e4; have z4 := cutLe e4)
    | ((with_reducible refine callF (g := 18) ?_ ?_); kernel_rfl; refine ⟨_, isTime_c _ _ _, ?_⟩; intro w4 e4; have z4 := cutLe e4)
    | ((with_reducible refine BIF.dec ?_ ?_) <;> intro _)
    | ((with_reducible refine BIF.s ?_ ?_) <;> intro _)
    | (with_reducible refine NEXTK.normal ?_)
    | (with_reducible refine NEXTK.ret ?_)
    | (with_reducible refine NEXTK.exit ?_)
    | (with_reducible refine SEQ.plain ?_)
    | (with_reducible refine hK _ _ ?_)
    | ((with_reducible refine RUNL.agg (fun _ => ?_) ?_); (focus kernel_rfl))
    | (with_reducible refine RUNL.run ?_)
    | ((with_reducible refine AR.ok ?_ ?_); exact ⟨by first | omega | (dsimp only; omega), by first | omega | (dsimp only; omega)⟩)
    | (with_reducible refine AR.wr ?_)
    | ((with_reducible intro w3 e3); try have z3 := cutLe e3)
    | ((with_reducible intro h3); have h4 := Nat.le_of_lt h3; clear h4)))
  all_goals
    intro hx
    refine ⟨?_, hx⟩
    simp_all [okV, resV]
theorem l30One_c (x : Vis) (w : World) : Calls Try.prog 21 #[.agg (encVis x).toArray] w fun e w' => e = .returned (.bool (okV x)) ∧ E0 w w' := by
  refine enterK Non 18 Try.func21 rfl rfl rfl fun K hK => ?_
  repeat (any_goals (
    conv => whnf
    first
    | ((with_reducible refine callF (g := 31) ?_ ?_); kernel_rfl; refine ⟨_, l30Reader_c _ _, ?_⟩; intro w4 e4; have z4 := cutLe e4)
    | ((with_reducible refine callF (g := 32) ?_ ?_); kernel_rfl; refine ⟨_, l30Seat_c _ _, ?_⟩; intro w4 e4; have z4 := cutLe e4)
    | ((with_reducible refine callF (g := 14) ?_ ?_); kernel_rfl; refine ⟨_, l30Time_c _ _ _, ?_⟩; intro w4 e4; have z4 := cutLe e4)
    | ((with_reducible refine BIF.dec ?_ ?_) <;> intro _)
    | ((with_reducible refine BIF.s ?_ ?_) <;> intro _)
    | (with_reducible refine NEXTK.normal ?_)
    | (with_reducible refine NEXTK.ret ?_)
    | (with_reducible refine NEXTK.exit ?_)
    | (with_reducible refine SEQ.plain ?_)
    | (with_reducible refine hK _ _ ?_)
    | ((with_reducible refine RUNL.agg (fun _ => ?_) ?_); (focus kernel_rfl))
    | (with_reducible refine RUNL.run ?_)
    | ((with_reducible refine AR.ok ?_ ?_); exact ⟨by first | omega | (dsimp only; omega), by first | omega | (dsimp only; omega)⟩)
    | (with_reducible refine AR.wr ?_)
    | ((with_reducible intro w3 e3); try have z3 := cutLe e3)
    | ((with_reducible intro h3); have h4 := Nat.le_of_lt h3; clear h4)))
  all_goals
    intro hx
    refine ⟨?_, hx⟩
    simp_all [okV, resV]
theorem meets_c (x : Vis) (a b : Int) (w : World) : Calls Try.prog 27 #[.agg (encVis x).toArray, .int .i64 a, .int .i64 b] w fun e w' => e = .returned (.bool (meetV x a b)) ∧ E0 w w' := by
  refine enterK Non 17 Try.func27 rfl rfl rfl fun K hK => ?_
  repeat (any_goals (
    conv => whnf
    first
    | ((with_reducible refine BIF.dec ?_ ?_) <;> intro _)
    | ((with_reducible refine BIF.s ?_ ?_) <;> intro _)
    | (with_reducible refine NEXTK.normal ?_)
    | (with_reducible refine NEXTK.ret ?_)
    | (with_reducible refine NEXTK.exit ?_)
    | (with_reducible refine SEQ.plain ?_)
    | (with_reducible refine hK _ _ ?_)
    | ((with_reducible refine RUNL.agg (fun _ => ?_) ?_); (focus kernel_rfl))
    | (with_reducible refine RUNL.run ?_)
    | ((with_reducible refine AR.ok ?_ ?_); exact ⟨by first | omega | (dsimp only; omega), by first | omega | (dsimp only; omega)⟩)
    | (with_reducible refine AR.wr ?_)
    | ((with_reducible intro w3 e3); try have z3 := cutLe e3)
    | ((with_reducible intro h3); have h4 := Nat.le_of_lt h3; clear h4)))
  all_goals
    intro hx
    refine ⟨?_, hx⟩
    simp_all [meetV, resV] <;> omega
theorem l30Meet_c (x : Vis) (a b : Int) (w : World) : Calls Try.prog 22 #[.agg (encVis x).toArray, .int .i64 a, .int .i64 b] w fun e w' => e = .returned (.bool (meetV x a b)) ∧ E0 w w' := by
  refine enterK Non 17 Try.func22 rfl rfl rfl fun K hK => ?_
  repeat (any_goals (
    conv => whnf
    first
    | ((with_reducible refine BIF.dec ?_ ?_) <;> intro _)
    | ((with_reducible refine BIF.s ?_ ?_) <;> intro _)
    | (with_reducible refine NEXTK.normal ?_)
    | (with_reducible refine NEXTK.ret ?_)
    | (with_reducible refine NEXTK.exit ?_)
    | (with_reducible refine SEQ.plain ?_)
    | (with_reducible refine hK _ _ ?_)
    | ((with_reducible refine RUNL.agg (fun _ => ?_) ?_); (focus kernel_rfl))
    | (with_reducible refine RUNL.run ?_)
    | ((with_reducible refine AR.ok ?_ ?_); exact ⟨by first | omega | (dsimp only; omega), by first | omega | (dsimp only; omega)⟩)
    | (with_reducible refine AR.wr ?_)
    | ((with_reducible intro w3 e3); try have z3 := cutLe e3)
    | ((with_reducible intro h3); have h4 := Nat.le_of_lt h3; clear h4)))
  all_goals
    intro hx
    refine ⟨?_, hx⟩
    simp_all [meetV, resV] <;> omega
theorem AreVisits1_c (x y : Vis) (p : Addr) (w : World) (hp : Row w (some p) 4 [encVis x]) :
    Calls Try.prog 26 #[.agg (encVis y).toArray, .pointer (some p)] w fun e w' => e = .returned (.bool (clashV x y)) ∧ E0 w w' := by
  refine enterK Non 24 Try.func26 rfl rfl rfl fun K hK => ?_
  repeat (any_goals (
    conv => whnf
    first
    | ((with_reducible refine callF (g := 27) ?_ ?_); kernel_rfl; refine ⟨_, meets_c _ _ _ _, ?_⟩; intro w4 e4; have z4 := cutLe e4)
    | ((with_reducible refine ELD.old [encVis x] (encVis x) hp ?_ ?_ ?_); exact mAddr_Non _; rfl)
    | ((with_reducible refine BIF.dec ?_ ?_) <;> intro _)
    | ((with_reducible refine BIF.s ?_ ?_) <;> intro _)
    | (with_reducible refine NEXTK.normal ?_)
    | (with_reducible refine NEXTK.ret ?_)
    | (with_reducible refine NEXTK.exit ?_)
    | (with_reducible refine SEQ.plain ?_)
    | (with_reducible refine hK _ _ ?_)
    | ((with_reducible refine RUNL.agg (fun _ => ?_) ?_); (focus kernel_rfl))
    | (with_reducible refine RUNL.run ?_)
    | ((with_reducible refine AR.ok ?_ ?_); exact ⟨by first | omega | (dsimp only; omega), by first | omega | (dsimp only; omega)⟩)
    | (with_reducible refine AR.wr ?_)
    | ((with_reducible intro w3 e3); try have z3 := cutLe e3)
    | ((with_reducible intro h3); have h4 := Nat.le_of_lt h3; clear h4)))
  all_goals
    intro hx
    refine ⟨?_, hx⟩
    simp_all [clashV, resV] <;> first | rfl | omega
theorem AreVisits_c (a : Option Addr) (n c : Nat) (xs : List Vis) (w : World) (hr : Row w a 4 (xs.map encVis)) (hn : xs.length = n) (hm : n ≤ 4611686018427387904) (hc : n ≤ c ∧ c < 9223372036854775808) :
    Calls Try.prog 17 #[.slice a n c] w fun e w' => e = .returned (.bool (areV xs)) ∧ E0 w w' := by
  refine enterK Non 39 Try.func17 rfl rfl rfl fun K hK => ?_
  conv => whnf
  repeat (first | ((with_reducible refine NEXTK.normal ?_); conv => whnf) | ((with_reducible refine NEXTK.exit ?_); conv => whnf) | ((with_reducible refine NEXTK.ret ?_); conv => whnf) | ((with_reducible refine SEQ.plain ?_); conv => whnf) | ((with_reducible refine AR.ok ?_ ?_); exact ⟨by omega, by omega⟩; conv => whnf))
  refine LOOP.mk Nat (fun k => [(7, .v (.int .i64 k))]) (fun k _ => k ≤ n ∧ vUpto xs k = true) (fun k => n - k) 0 rfl ⟨rfl, trivial⟩ ⟨Nat.zero_le _, rfl⟩ ?_
  rintro k wr ew ⟨hk, hok⟩
  conv => whnf
  repeat (first | ((with_reducible refine NEXTK.normal ?_); conv => whnf) | ((with_reducible refine NEXTK.exit ?_); conv => whnf) | ((with_reducible refine NEXTK.ret ?_); conv => whnf) | ((with_reducible refine SEQ.plain ?_); conv => whnf) | ((with_reducible refine AR.ok ?_ ?_); exact ⟨by omega, by omega⟩; conv => whnf))
  refine BIF.dec (fun hlt => ?_) (fun hlt => ?_)
  · have hlt' : k < xs.length := by omega
    have his := hr.isSome (by simp; omega)
    obtain ⟨x, hx⟩ : ∃ x, xs[k]? = some x := ⟨xs[k]'(by omega), by simp⟩
    have hsb := hr.sub 0 k c (by omega)
    have e0 : (xs.drop (Int.toNat 0)).take ((k : Int).toNat - Int.toNat 0) = xs.take k := by simp
    rw [e0] at hsb
    repeat (any_goals (
      conv => whnf
      first
      | ((with_reducible refine OBL.mk ?_ (fun _ => ?_)); exact ⟨by first | omega | (dsimp only; omega), by first | omega | (dsimp only; omega), his⟩)
      | ((with_reducible refine ELD.at (k) hr ?_ ?_ ?_ (fun x' hx' => ?_)); exact mAddr_Non _; (first | rfl | omega); exact hlt'; obtain rfl : x = x' := by (rw [hx] at hx'; exact Option.some.inj hx'))
      | ((with_reducible refine DRAW.quiet ?_ ?_ ?_); kernel_rfl; kernel_rfl)
      | ((with_reducible refine callQ (g := 24) ?_ ?_); kernel_rfl; refine ⟨_, fun w' _ => isVisit_c x w', ?_⟩)
      | ((with_reducible refine ELD.at (k - 1) hr ?_ ?_ ?_ (fun y hy => ?_)); exact mAddr_Non _; omega; omega)
      | ((with_reducible refine OBL.mk ?_ (fun _ => ?_)); omega)
      | ((with_reducible refine callXB (g := 25) ?_ ?_); kernel_rfl; intro x0 hbx; refine ⟨_, ContainsFuncVis_c (clashV x) _ _ _ (xs.take k) _ _ _ (hsb.e0 x0) (by simp; omega) (by omega) (by kernel_rfl) (fun y _ w' e => AreVisits1_c x y _ _ ((Boxes.row hbx 0 _ _ _ rfl).e0 e)), ?_⟩; intro w4 e4)
      | ((with_reducible refine BIF.dec ?_ ?_) <;> intro _)
      | ((with_reducible refine BIF.s ?_ ?_) <;> intro _)
      | (with_reducible refine NEXTK.normal ?_)
      | (with_reducible refine NEXTK.ret ?_)
      | (with_reducible refine NEXTK.exit ?_)
      | (with_reducible refine SEQ.plain ?_)
      | (with_reducible refine hK _ _ ?_)
      | ((with_reducible refine RUNL.agg (fun _ => ?_) ?_); (focus kernel_rfl))
      | (with_reducible refine RUNL.run ?_)
      | ((with_reducible refine AR.ok ?_ ?_); exact ⟨by first | omega | (dsimp only; omega), by first | omega | (dsimp only; omega)⟩)
      | (with_reducible refine AR.wr ?_)
      | ((with_reducible intro w3 e3); try have z3 := cutLe e3)
      | ((with_reducible intro h3); have h4 := Nat.le_of_lt h3; clear h4)))
    all_goals first
      | (intro hx'
         refine ⟨?_, hx'⟩
         rw [areV_false hlt' (by simp_all [vAt]; try omega)]; rfl)
      | (refine ⟨k + 1, rfl, ⟨rfl, trivial⟩, rfl, rfl, ⟨by omega, ?_⟩, by omega⟩
         rw [vUpto_succ, hok]
         simp_all [vAt]; try omega)
  · have hkn : k = xs.length := by omega
    repeat (any_goals (
      conv => whnf
      first
      | ((with_reducible refine BIF.dec ?_ ?_) <;> intro _)
      | ((with_reducible refine BIF.s ?_ ?_) <;> intro _)
      | (with_reducible refine NEXTK.normal ?_)
      | (with_reducible refine NEXTK.ret ?_)
      | (with_reducible refine NEXTK.exit ?_)
      | (with_reducible refine SEQ.plain ?_)
      | (with_reducible refine hK _ _ ?_)
      | ((with_reducible refine RUNL.agg (fun _ => ?_) ?_); (focus kernel_rfl))
      | (with_reducible refine RUNL.run ?_)
      | ((with_reducible refine AR.ok ?_ ?_); exact ⟨by first | omega | (dsimp only; omega), by first | omega | (dsimp only; omega)⟩)
      | (with_reducible refine AR.wr ?_)
      | ((with_reducible intro w3 e3); try have z3 := cutLe e3)
      | ((with_reducible intro h3); have h4 := Nat.le_of_lt h3; clear h4)))
    intro hx'
    refine ⟨?_, hx'⟩
    rw [areV, ← hkn, hok]
    simp [resV]; omega
theorem any_take_succ {α : Type} {p : α → Bool} {xs : List α} {j : Nat} {y : α} (hy : xs[j]? = some y) : (xs.take (j + 1)).any p = ((xs.take j).any p || p y) := by
  rw [List.take_add_one, hy, List.any_append]; simp
theorem any_take_of {α : Type} {p : α → Bool} {xs : List α} {j k : Nat} {y : α} (hy : xs[j]? = some y) (hjk : j < k) (h : p y = true) : (xs.take k).any p = true := by
  rw [List.any_eq_true]
  refine ⟨y, ?_, h⟩
  refine List.mem_of_getElem? (i := j) ?_
  rw [List.getElem?_take, if_pos hjk, hy]
theorem l30Good_c (a : Option Addr) (n c : Nat) (xs : List Vis) (w : World) (hr : Row w a 4 (xs.map encVis)) (hn : xs.length = n) (hm : n ≤ 4611686018427387904) :
    Calls Try.prog 13 #[.slice a n c] w fun e w' => e = .returned (.bool (areV xs)) ∧ E0 w w' := by
  refine enterK Non 75 Try.func13 rfl rfl rfl fun K hK => ?_
  conv => whnf
  repeat (first | ((with_reducible refine NEXTK.normal ?_); conv => whnf) | ((with_reducible refine NEXTK.exit ?_); conv => whnf) | ((with_reducible refine NEXTK.ret ?_); conv => whnf) | ((with_reducible refine SEQ.plain ?_); conv => whnf) | ((with_reducible refine AR.ok ?_ ?_); exact ⟨by omega, by omega⟩; conv => whnf))
  refine LOOP.mk Nat (fun k => [(3, .v (.int .i64 k))]) (fun k _ => k ≤ n ∧ k ≤ 16 ∧ vUpto xs k = true) (fun k => n - k) 0 rfl ⟨rfl, trivial⟩ ⟨Nat.zero_le _, by omega, rfl⟩ ?_
  rintro k wr ew ⟨hk, hk2, hok⟩
  by_cases hgo : k < n ∧ k ≤ 15
  · have hlt' : k < xs.length := by omega
    have his := hr.isSome (by simp; omega)
    obtain ⟨x, hx⟩ : ∃ x, xs[k]? = some x := ⟨xs[k]'(by omega), by simp⟩
    conv => whnf
    repeat (first | ((with_reducible refine NEXTK.normal ?_); conv => whnf) | ((with_reducible refine NEXTK.exit ?_); conv => whnf) | ((with_reducible refine NEXTK.ret ?_); conv => whnf) | ((with_reducible refine SEQ.plain ?_); conv => whnf) | ((with_reducible refine AR.ok ?_ ?_); exact ⟨by omega, by omega⟩; conv => whnf))
    refine BIF.dec (fun _ => ?_) (fun h => absurd hgo.1 (by omega))
    conv => whnf
    repeat (first | ((with_reducible refine NEXTK.normal ?_); conv => whnf) | ((with_reducible refine NEXTK.exit ?_); conv => whnf) | ((with_reducible refine NEXTK.ret ?_); conv => whnf) | ((with_reducible refine SEQ.plain ?_); conv => whnf) | ((with_reducible refine AR.ok ?_ ?_); exact ⟨by omega, by omega⟩; conv => whnf))
    refine BIF.dec (fun _ => ?_) (fun h => absurd hgo.2 (by omega))
    repeat (any_goals (
      conv => whnf
      first
      | ((with_reducible refine OBL.mk ?_ (fun _ => ?_)); exact ⟨by first | omega | (dsimp only; omega), by first | omega | (dsimp only; omega), his⟩)
      | ((with_reducible refine ELD.at (k) hr ?_ ?_ ?_ (fun x' hx' => ?_)); exact mAddr_Non _; (first | rfl | omega); exact hlt'; obtain rfl : x = x' := by (rw [hx] at hx'; exact Option.some.inj hx'))
      | ((with_reducible refine DRAW.quiet ?_ ?_ ?_); kernel_rfl; kernel_rfl)
      | ((with_reducible refine callQ (g := 21) ?_ ?_); kernel_rfl; refine ⟨_, fun w' _ => l30One_c x w', ?_⟩)
      | ((with_reducible refine ELD.at (k - 1) hr ?_ ?_ ?_ (fun y hy => ?_)); exact mAddr_Non _; omega; omega)
      | ((with_reducible refine BIF.dec ?_ ?_) <;> intro _)
      | ((with_reducible refine BIF.s ?_ ?_) <;> intro _)
      | (with_reducible refine NEXTK.normal ?_)
      | (with_reducible refine NEXTK.ret ?_)
      | (with_reducible refine NEXTK.exit ?_)
      | (with_reducible refine SEQ.plain ?_)
      | (with_reducible refine hK _ _ ?_)
      | ((with_reducible refine RUNL.agg (fun _ => ?_) ?_); (focus kernel_rfl))
      | (with_reducible refine RUNL.run ?_)
      | ((with_reducible refine AR.ok ?_ ?_); exact ⟨by first | omega | (dsimp only; omega), by first | omega | (dsimp only; omega)⟩)
      | (with_reducible refine AR.wr ?_)
      | ((with_reducible intro w3 e3); try have z3 := cutLe e3)
      | ((with_reducible intro h3); have h4 := Nat.le_of_lt h3; clear h4)))
    all_goals first
      | (intro hx'
         refine ⟨?_, hx'⟩
         rw [areV_false hlt' (by simp_all [vAt]; try omega)]; rfl)
      | (have hf : vAt xs k = !((xs.take k).any (clashV x)) := by
           simp_all [vAt]
           try omega
         refine LOOP.mk Nat (fun j => [(5, .v (.int .i64 j))]) (fun j _ => j ≤ k ∧ (xs.take j).any (clashV x) = false) (fun j => k - j) 0 rfl ⟨rfl, trivial⟩ ⟨Nat.zero_le _, rfl⟩ ?_
         rintro j wj ej ⟨hj, hnc⟩
         conv => whnf
         repeat (first | ((with_reducible refine NEXTK.normal ?_); conv => whnf) | ((with_reducible refine NEXTK.exit ?_); conv => whnf) | ((with_reducible refine NEXTK.ret ?_); conv => whnf) | ((with_reducible refine SEQ.plain ?_); conv => whnf) | ((with_reducible refine AR.ok ?_ ?_); exact ⟨by omega, by omega⟩; conv => whnf))
         refine BIF.dec (fun hjl => ?_) (fun hjl => ?_)
         · have hlj : j < xs.length := by omega
           obtain ⟨y, hy⟩ : ∃ y, xs[j]? = some y := ⟨xs[j]'(by omega), by simp⟩
           conv => whnf
           repeat (first | ((with_reducible refine NEXTK.normal ?_); conv => whnf) | ((with_reducible refine NEXTK.exit ?_); conv => whnf) | ((with_reducible refine NEXTK.ret ?_); conv => whnf) | ((with_reducible refine SEQ.plain ?_); conv => whnf) | ((with_reducible refine AR.ok ?_ ?_); exact ⟨by omega, by omega⟩; conv => whnf))
           refine DRAW.quiet (by kernel_rfl) (by kernel_rfl) ?_
           repeat (any_goals (
             conv => whnf
             first
             | ((with_reducible refine OBL.mk ?_ (fun _ => ?_)); exact ⟨by first | omega | (dsimp only; omega), by first | omega | (dsimp only; omega), his⟩)
             | ((with_reducible refine ELD.at (j) hr ?_ ?_ ?_ (fun x' hx' => ?_)); exact mAddr_Non _; (first | rfl | omega); exact hlj; obtain rfl : y = x' := by (rw [hy] at hx'; exact Option.some.inj hx'))
             | ((with_reducible refine callQ (g := 22) ?_ ?_); kernel_rfl; refine ⟨_, fun w' _ => l30Meet_c _ _ _ w', ?_⟩)
             | ((with_reducible refine BIF.dec ?_ ?_) <;> intro _)
             | ((with_reducible refine BIF.s ?_ ?_) <;> intro _)
             | (with_reducible refine NEXTK.normal ?_)
             | (with_reducible refine NEXTK.ret ?_)
             | (with_reducible refine NEXTK.exit ?_)
             | (with_reducible refine SEQ.plain ?_)
             | (with_reducible refine hK _ _ ?_)
             | ((with_reducible refine RUNL.agg (fun _ => ?_) ?_); (focus kernel_rfl))
             | (with_reducible refine RUNL.run ?_)
             | ((with_reducible refine AR.ok ?_ ?_); exact ⟨by first | omega | (dsimp only; omega), by first | omega | (dsimp only; omega)⟩)
             | (with_reducible refine AR.wr ?_)
             | ((with_reducible intro w3 e3); try have z3 := cutLe e3)
             | ((with_reducible intro h3); have h4 := Nat.le_of_lt h3; clear h4)))
           all_goals first
             | (intro hx'
                refine ⟨?_, hx'⟩
                rw [areV_false hlt' (by rw [hf, any_take_of hy (by omega) (by simp_all [clashV])]; rfl)]; rfl)
             | (refine ⟨j + 1, rfl, ⟨rfl, trivial⟩, rfl, rfl, ⟨by omega, ?_⟩, by omega⟩
                rw [any_take_succ hy, hnc]
                simp_all [clashV])
         · obtain rfl : j = k := by omega
           repeat (any_goals (
             conv => whnf
             first
             | ((with_reducible refine BIF.dec ?_ ?_) <;> intro _)
             | ((with_reducible refine BIF.s ?_ ?_) <;> intro _)
             | (with_reducible refine NEXTK.normal ?_)
             | (with_reducible refine NEXTK.ret ?_)
             | (with_reducible refine NEXTK.exit ?_)
             | (with_reducible refine SEQ.plain ?_)
             | (with_reducible refine hK _ _ ?_)
             | ((with_reducible refine RUNL.agg (fun _ => ?_) ?_); (focus kernel_rfl))
             | (with_reducible refine RUNL.run ?_)
             | ((with_reducible refine AR.ok ?_ ?_); exact ⟨by first | omega | (dsimp only; omega), by first | omega | (dsimp only; omega)⟩)
             | (with_reducible refine AR.wr ?_)
             | ((with_reducible intro w3 e3); try have z3 := cutLe e3)
             | ((with_reducible intro h3); have h4 := Nat.le_of_lt h3; clear h4)))
           refine ⟨j + 1, rfl, ⟨rfl, trivial⟩, rfl, rfl, ⟨by omega, by omega, ?_⟩, by omega⟩
           rw [vUpto_succ, hok, hf, hnc]; rfl)
  · conv => whnf
    repeat (first | ((with_reducible refine NEXTK.normal ?_); conv => whnf) | ((with_reducible refine NEXTK.exit ?_); conv => whnf) | ((with_reducible refine NEXTK.ret ?_); conv => whnf) | ((with_reducible refine SEQ.plain ?_); conv => whnf) | ((with_reducible refine AR.ok ?_ ?_); exact ⟨by omega, by omega⟩; conv => whnf))
    refine BIF.dec (fun h1 => ?_) (fun h1 => ?_)
    all_goals
      repeat (any_goals (
        conv => whnf
        first
        | ((with_reducible refine BIF.dec ?_ ?_) <;> intro _)
        | ((with_reducible refine BIF.s ?_ ?_) <;> intro _)
        | (with_reducible refine NEXTK.normal ?_)
        | (with_reducible refine NEXTK.ret ?_)
        | (with_reducible refine NEXTK.exit ?_)
        | (with_reducible refine SEQ.plain ?_)
        | (with_reducible refine hK _ _ ?_)
        | ((with_reducible refine RUNL.agg (fun _ => ?_) ?_); (focus kernel_rfl))
        | (with_reducible refine RUNL.run ?_)
        | ((with_reducible refine AR.ok ?_ ?_); exact ⟨by first | omega | (dsimp only; omega), by first | omega | (dsimp only; omega)⟩)
        | (with_reducible refine AR.wr ?_)
        | ((with_reducible intro w3 e3); try have z3 := cutLe e3)
        | ((with_reducible intro h3); have h4 := Nat.le_of_lt h3; clear h4)))
      all_goals first
        | (exfalso; omega)
        | (intro hx'
           refine ⟨?_, hx'⟩
           by_cases hkn : k = xs.length
           · rw [areV, ← hkn, hok]
             simp [resV]; omega
           · have : ¬ xs.length ≤ 15 := by omega
             simp [resV, areV, this]; omega)

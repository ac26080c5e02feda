/- The room on a wall. -/
import Derived.Test.YthgeeocmhdpgiaaRows
import Derived.Test.YthgeeocmhdpgiaaFrames3
namespace Go.Proofs.Ythgeeocmhdpgiaa
open Go Go.X Go.Proofs Go.ChangeShapes Go.WideShapes Go.ChangeAt Go.RowKit
open Go.ChangeMaps (open_string shut_string)
set_option maxHeartbeats 1000000
set_option maxRecDepth 20000
set_option linter.unusedVariables false
set_option linter.unusedSimpArgs false
def roomStep (xs : List Frm) (wall f u : Int) (m : Int) (x : Frm) : Int := if inB x.fFrom f u then max m (wOn xs wall x.fFrom) else m
def roomMost (xs : List Frm) (wall f u : Int) (k : Nat) : Int := (xs.take k).foldl (roomStep xs wall f u) (wOn xs wall f)
theorem roomMost_at {xs : List Frm} {k : Nat} {x : Frm} (wall f u : Int) (h : xs[k]? = some x) : roomMost xs wall f u (k + 1) = roomStep xs wall f u (roomMost xs wall f u k) x := by
  unfold roomMost
  rw [List.take_add_one, h]; simp
def roomF (xs : List Frm) (wall f u : Int) : Int := IntKind.i64.wrap (1000 - roomMost xs wall f u xs.length)
theorem roomFor_c (a : Option Addr) (n c : Nat) (xs : List Frm) (wall f u : Int) (w : World) (hr : Row w a 5 (xs.map encFrm)) (hn : xs.length = n) (hm : n ≤ 1048577) :
    Calls Try.prog 29 #[.slice a n c, .int .i64 wall, .int .i64 f, .int .i64 u] w fun e w' => e = .returned (.int .i64 (roomF xs wall f u)) ∧ E0 w w' := by
  refine enterK Non 37 Try.func29 rfl rfl rfl fun K hK => ?_
  repeat (any_goals (
    conv => whnf
    first
    | ((with_reducible refine callF (g := 34) ?_ ?_); kernel_rfl; refine ⟨_, widthOn_c _ _ _ xs _ _ _ (by repeat (first | assumption | refine Row.e0 ?_ (by assumption))) hn (by omega), ?_⟩; intro w4 e4; have z4 := cutLe e4)
    | ((with_reducible refine BIF.dec ?_ ?_) <;> intro _)
    | ((with_reducible refine BIF.s ?_ ?_) <;> intro _)
    | (with_reducible refine NEXTK.normal ?_)
    | (with_reducible refine NEXTK.ret ?_)
    | (with_reducible refine NEXTK.exit ?_)
    | (with_reducible refine SEQ.plain ?_)
    | (with_reducible refine hK _ _ ?_)
    | ((with_reducible refine RUNL.agg (fun _ => ?_) ?_); (focus kernel_rfl))
    | (with_reducible refine RUNL.run ?_)
    | ((with_reducible refine AR.ok ?_ ?_); exact ⟨by first | omega | (dsimp only; omega), by first | omega | (dsimp only; omega)⟩)
    | (with_reducible refine AR.wr ?_)
    | ((with_reducible intro w3 e3); try have z3 := cutLe e3)
    | ((with_reducible intro h3); have h4 := Nat.le_of_lt h3; clear h4)))
  conv => whnf
  refine LOOP.mk (Nat × Int) (fun g => [(18, .v (.int .i64 g.1)), (9, .v (.int .i64 g.2))]) (fun g _ => g.1 ≤ n ∧ g.2 = roomMost xs wall f u g.1) (fun g => n - g.1) (0, wOn xs wall f) rfl ⟨rfl, rfl, trivial⟩ ⟨Nat.zero_le _, rfl⟩ ?_
  rintro ⟨j, s⟩ wr - ⟨hj, hs'⟩
  simp only at hj hs'
  conv => whnf
  repeat (first | ((with_reducible refine NEXTK.normal ?_); conv => whnf) | ((with_reducible refine NEXTK.exit ?_); conv => whnf) | ((with_reducible refine NEXTK.ret ?_); conv => whnf) | ((with_reducible refine SEQ.plain ?_); conv => whnf) | ((with_reducible refine AR.ok ?_ ?_); exact ⟨by omega, by omega⟩; conv => whnf))
  refine BIF.dec (fun hlt => ?_) (fun hlt => ?_)
  · have hlt' : j < xs.length := by omega
    have his := hr.isSome (by simp; omega)
    obtain ⟨x, hx⟩ : ∃ x, xs[j]? = some x := ⟨xs[j]'(by omega), by simp⟩
    have ht := roomMost_at wall f u hx
    repeat (any_goals (
      conv => whnf
      first
      | ((with_reducible refine OBL.mk ?_ (fun _ => ?_)); exact ⟨by first | omega | (dsimp only; omega), by first | omega | (dsimp only; omega), his⟩)
      | ((with_reducible refine ELD.at (j) hr ?_ ?_ ?_ (fun x' hx' => ?_)); exact mAddr_Non _; (first | rfl | omega); exact hlt'; obtain rfl : x = x' := by (rw [hx] at hx'; exact Option.some.inj hx'))
      | ((with_reducible refine callF (g := 51) ?_ ?_); kernel_rfl; refine ⟨_, within_c _ _ _ _, ?_⟩; intro w4 e4; have z4 := cutLe e4)
      | ((with_reducible refine callX (g := 34) ?_ ?_); kernel_rfl; intro hX; refine ⟨_, widthOn_c _ _ _ xs _ _ _ (hr.ext hX (mAddr_Non _)) hn (by omega), ?_⟩; intro w4 e4; have z4 := cutLe e4)
      | ((with_reducible refine BIF.dec ?_ ?_) <;> intro _)
      | ((with_reducible refine BIF.s ?_ ?_) <;> intro _)
      | (with_reducible refine NEXTK.normal ?_)
      | (with_reducible refine NEXTK.ret ?_)
      | (with_reducible refine NEXTK.exit ?_)
      | (with_reducible refine SEQ.plain ?_)
      | (with_reducible refine hK _ _ ?_)
      | ((with_reducible refine RUNL.agg (fun _ => ?_) ?_); (focus kernel_rfl))
      | (with_reducible refine RUNL.run ?_)
      | ((with_reducible refine AR.ok ?_ ?_); exact ⟨by first | omega | (dsimp only; omega), by first | omega | (dsimp only; omega)⟩)
      | (with_reducible refine AR.wr ?_)
      | ((with_reducible intro w3 e3); try have z3 := cutLe e3)
      | ((with_reducible intro h3); have h4 := Nat.le_of_lt h3; clear h4)))
    all_goals
      refine ⟨(j + 1, _), rfl, ⟨rfl, rfl, trivial⟩, rfl, rfl, ⟨by simp only; omega, ?_⟩, by simp only; omega⟩
      simp_all [roomStep]
  · have hkj : j = xs.length := by omega
    have hroom : IntKind.i64.wrap (1000 - s) = roomF xs wall f u := by rw [hs', hkj]; rfl
    repeat (any_goals (
      conv => whnf
      first
      | ((with_reducible refine AR.gen hroom ?_))
      | ((with_reducible refine BIF.dec ?_ ?_) <;> intro _)
      | ((with_reducible refine BIF.s ?_ ?_) <;> intro _)
      | (with_reducible refine NEXTK.normal ?_)
      | (with_reducible refine NEXTK.ret ?_)
      | (with_reducible refine NEXTK.exit ?_)
      | (with_reducible refine SEQ.plain ?_)
      | (with_reducible refine hK _ _ ?_)
      | ((with_reducible refine RUNL.agg (fun _ => ?_) ?_); (focus kernel_rfl))
      | (with_reducible refine RUNL.run ?_)
      | ((with_reducible refine AR.ok ?_ ?_); exact ⟨by first | omega | (dsimp only; omega), by first | omega | (dsimp only; omega)⟩)
      | (with_reducible refine AR.wr ?_)
      | ((with_reducible intro w3 e3); try have z3 := cutLe e3)
      | ((with_reducible intro h3); have h4 := Nat.le_of_lt h3; clear h4)))
    intro hx
    exact ⟨rfl, hx⟩
theorem l27Room_c (a : Option Addr) (n c : Nat) (xs : List Frm) (wall f u : Int) (w : World) (hr : Row w a 5 (xs.map encFrm)) (hn : xs.length = n) (hm : n ≤ 1048577) :
    Calls Try.prog 32 #[.slice a n c, .int .i64 wall, .int .i64 f, .int .i64 u] w fun e w' => e = .returned (.int .i64 (roomF xs wall f u)) ∧ E0 w w' := by
  refine enterK Non 41 Try.func32 rfl rfl rfl fun K hK => ?_
  repeat (any_goals (
    conv => whnf
    first
    | ((with_reducible refine callF (g := 43) ?_ ?_); kernel_rfl; refine ⟨_, l27Width_c _ _ _ xs _ _ _ (by repeat (first | assumption | refine Row.e0 ?_ (by assumption))) hn (by omega), ?_⟩; intro w4 e4; have z4 := cutLe e4)
    | ((with_reducible refine BIF.dec ?_ ?_) <;> intro _)
    | ((with_reducible refine BIF.s ?_ ?_) <;> intro _)
    | (with_reducible refine NEXTK.normal ?_)
    | (with_reducible refine NEXTK.ret ?_)
    | (with_reducible refine NEXTK.exit ?_)
    | (with_reducible refine SEQ.plain ?_)
    | (with_reducible refine hK _ _ ?_)
    | ((with_reducible refine RUNL.agg (fun _ => ?_) ?_); (focus kernel_rfl))
    | (with_reducible refine RUNL.run ?_)
    | ((with_reducible refine AR.ok ?_ ?_); exact ⟨by first | omega | (dsimp only; omega), by first | omega | (dsimp only; omega)⟩)
    | (with_reducible refine AR.wr ?_)
    | ((with_reducible intro w3 e3); try have z3 := cutLe e3)
    | ((with_reducible intro h3); have h4 := Nat.le_of_lt h3; clear h4)))
  conv => whnf
  refine LOOP.mk (Nat × Int) (fun g => [(10, .v (.int .i64 g.1)), (9, .v (.int .i64 g.2))]) (fun g _ => g.1 ≤ n ∧ g.2 = roomMost xs wall f u g.1) (fun g => n - g.1) (0, wOn xs wall f) rfl ⟨rfl, rfl, trivial⟩ ⟨Nat.zero_le _, rfl⟩ ?_
  rintro ⟨j, s⟩ wr - ⟨hj, hs'⟩
  simp only at hj hs'
  conv => whnf
  repeat (first | ((with_reducible refine NEXTK.normal ?_); conv => whnf) | ((with_reducible refine NEXTK.exit ?_); conv => whnf) | ((with_reducible refine NEXTK.ret ?_); conv => whnf) | ((with_reducible refine SEQ.plain ?_); conv => whnf) | ((with_reducible refine AR.ok ?_ ?_); exact ⟨by omega, by omega⟩; conv => whnf))
  refine BIF.dec (fun hlt => ?_) (fun hlt => ?_)
  · have hlt' : j < xs.length := by omega
    have his := hr.isSome (by simp; omega)
    obtain ⟨x, hx⟩ : ∃ x, xs[j]? = some x := ⟨xs[j]'(by omega), by simp⟩
    have ht := roomMost_at wall f u hx
    repeat (any_goals (
      conv => whnf
      first
      | ((with_reducible refine OBL.mk ?_ (fun _ => ?_)); exact ⟨by first | omega | (dsimp only; omega), by first | omega | (dsimp only; omega), his⟩)
      | ((with_reducible refine ELD.at (j) hr ?_ ?_ ?_ (fun x' hx' => ?_)); exact mAddr_Non _; (first | rfl | omega); exact hlt'; obtain rfl : x = x' := by (rw [hx] at hx'; exact Option.some.inj hx'))
      | ((with_reducible refine callF (g := 44) ?_ ?_); kernel_rfl; refine ⟨_, l1In_c _ _ _ _, ?_⟩; intro w4 e4; have z4 := cutLe e4)
      | ((with_reducible refine callF (g := 52) ?_ ?_); kernel_rfl; refine ⟨_, l1Most_c _ _ _, ?_⟩; intro w4 e4; have z4 := cutLe e4)
      | ((with_reducible refine callX (g := 43) ?_ ?_); kernel_rfl; intro hX; refine ⟨_, l27Width_c _ _ _ xs _ _ _ (hr.ext hX (mAddr_Non _)) hn (by omega), ?_⟩; intro w4 e4; have z4 := cutLe e4)
      | ((with_reducible refine BIF.dec ?_ ?_) <;> intro _)
      | ((with_reducible refine BIF.s ?_ ?_) <;> intro _)
      | (with_reducible refine NEXTK.normal ?_)
      | (with_reducible refine NEXTK.ret ?_)
      | (with_reducible refine NEXTK.exit ?_)
      | (with_reducible refine SEQ.plain ?_)
      | (with_reducible refine hK _ _ ?_)
      | ((with_reducible refine RUNL.agg (fun _ => ?_) ?_); (focus kernel_rfl))
      | (with_reducible refine RUNL.run ?_)
      | ((with_reducible refine AR.ok ?_ ?_); exact ⟨by first | omega | (dsimp only; omega), by first | omega | (dsimp only; omega)⟩)
      | (with_reducible refine AR.wr ?_)
      | ((with_reducible intro w3 e3); try have z3 := cutLe e3)
      | ((with_reducible intro h3); have h4 := Nat.le_of_lt h3; clear h4)))
    all_goals
      refine ⟨(j + 1, _), rfl, ⟨rfl, rfl, trivial⟩, rfl, rfl, ⟨by simp only; omega, ?_⟩, by simp only; omega⟩
      simp_all [roomStep]
  · have hkj : j = xs.length := by omega
    have hroom : IntKind.i64.wrap (1000 - s) = roomF xs wall f u := by rw [hs', hkj]; rfl
    repeat (any_goals (
      conv => whnf
      first
      | ((with_reducible refine AR.gen hroom ?_))
      | ((with_reducible refine BIF.dec ?_ ?_) <;> intro _)
      | ((with_reducible refine BIF.s ?_ ?_) <;> intro _)
      | (with_reducible refine NEXTK.normal ?_)
      | (with_reducible refine NEXTK.ret ?_)
      | (with_reducible refine NEXTK.exit ?_)
      | (with_reducible refine SEQ.plain ?_)
      | (with_reducible refine hK _ _ ?_)
      | ((with_reducible refine RUNL.agg (fun _ => ?_) ?_); (focus kernel_rfl))
      | (with_reducible refine RUNL.run ?_)
      | ((with_reducible refine AR.ok ?_ ?_); exact ⟨by first | omega | (dsimp only; omega), by first | omega | (dsimp only; omega)⟩)
      | (with_reducible refine AR.wr ?_)
      | ((with_reducible intro w3 e3); try have z3 := cutLe e3)
      | ((with_reducible intro h3); have h4 := Nat.le_of_lt h3; clear h4)))
    intro hx
    exact ⟨rfl, hx⟩
theorem l27Days_c (a b : Int) (w : World) : Calls Try.prog 31 #[.int .i64 a, .int .i64 b] w fun e w' => e = .returned (.bool (inB a 0 4000 && inB b 0 4000 && decide (a ≤ b))) ∧ E0 w w' := by
  refine enterK Non 16 Try.func31 rfl rfl rfl fun K hK => ?_
  repeat (any_goals (
    conv => whnf
    first
    | ((with_reducible refine callF (g := 42) ?_ ?_); kernel_rfl; refine ⟨_, l2Day_c _ _, ?_⟩; intro w4 e4; have z4 := cutLe e4)
    | ((with_reducible refine BIF.dec ?_ ?_) <;> intro _)
    | ((with_reducible refine BIF.s ?_ ?_) <;> intro _)
    | (with_reducible refine NEXTK.normal ?_)
    | (with_reducible refine NEXTK.ret ?_)
    | (with_reducible refine NEXTK.exit ?_)
    | (with_reducible refine SEQ.plain ?_)
    | (with_reducible refine hK _ _ ?_)
    | ((with_reducible refine RUNL.agg (fun _ => ?_) ?_); (focus kernel_rfl))
    | (with_reducible refine RUNL.run ?_)
    | ((with_reducible refine AR.ok ?_ ?_); exact ⟨by first | omega | (dsimp only; omega), by first | omega | (dsimp only; omega)⟩)
    | (with_reducible refine AR.wr ?_)
    | ((with_reducible intro w3 e3); try have z3 := cutLe e3)
    | ((with_reducible intro h3); have h4 := Nat.le_of_lt h3; clear h4)))
  all_goals
    intro hx
    refine ⟨?_, hx⟩
    simp_all [resV]
def roomP (xs : List Frm) (wall f u : Int) : Int × Bool := if areF xs && inB wall 1 4 && (inB f 0 4000 && inB u 0 4000 && decide (f ≤ u)) then (roomF xs wall f u, true) else (0, false)
theorem RoomFor_c (a : Option Addr) (n c : Nat) (xs : List Frm) (wall f u : Int) (w : World) (hr : Row w a 5 (xs.map encFrm)) (hn : xs.length = n) (hm : n ≤ 1048577) :
    Calls Try.prog 9 #[.slice a n c, .int .i64 wall, .int .i64 f, .int .i64 u] w fun e w' => e = .returned (.tuple #[.int .i64 (roomP xs wall f u).1, .bool (roomP xs wall f u).2]) ∧ E0 w w' := by
  refine enterK Non 29 Try.func9 rfl rfl rfl fun K hK => ?_
  repeat (any_goals (
    conv => whnf
    first
    | ((with_reducible refine callF (g := 19) ?_ ?_); kernel_rfl; refine ⟨_, AreFrames_c _ _ _ xs _ (by repeat (first | assumption | refine Row.e0 ?_ (by assumption))) hn (by omega), ?_⟩; intro w4 e4; have z4 := cutLe e4)
    | ((with_reducible refine callF (g := 27) ?_ ?_); kernel_rfl; refine ⟨_, isHungWall_c _ _, ?_⟩; intro w4 e4; have z4 := cutLe e4)
    | ((with_reducible refine callF (g := 28) ?_ ?_); kernel_rfl; refine ⟨_, areDays_c _ _ _, ?_⟩; intro w4 e4; have z4 := cutLe e4)
    | ((with_reducible refine callF (g := 29) ?_ ?_); kernel_rfl; refine ⟨_, roomFor_c _ _ _ xs _ _ _ _ (by repeat (first | assumption | refine Row.e0 ?_ (by assumption))) hn (by omega), ?_⟩; intro w4 e4; have z4 := cutLe e4)
    | ((with_reducible refine BIF.dec ?_ ?_) <;> intro _)
    | ((with_reducible refine BIF.s ?_ ?_) <;> intro _)
    | (with_reducible refine NEXTK.normal ?_)
    | (with_reducible refine NEXTK.ret ?_)
    | (with_reducible refine NEXTK.exit ?_)
    | (with_reducible refine SEQ.plain ?_)
    | (with_reducible refine hK _ _ ?_)
    | ((with_reducible refine RUNL.agg (fun _ => ?_) ?_); (focus kernel_rfl))
    | (with_reducible refine RUNL.run ?_)
    | ((with_reducible refine AR.ok ?_ ?_); exact ⟨by first | omega | (dsimp only; omega), by first | omega | (dsimp only; omega)⟩)
    | (with_reducible refine AR.wr ?_)
    | ((with_reducible intro w3 e3); try have z3 := cutLe e3)
    | ((with_reducible intro h3); have h4 := Nat.le_of_lt h3; clear h4)))
  all_goals
    intro hx
    refine ⟨?_, hx⟩
    unfold roomP
    clear hK
    first
    | (rw [if_pos (by simp_all)]; rfl)
    | (rw [if_neg (by intro h; simp_all <;> omega)]; rfl)
theorem RoomForS_c (a : Option Addr) (n c : Nat) (xs : List Frm) (wall f u : Int) (w : World) (hr : Row w a 5 (xs.map encFrm)) (hn : xs.length = n) (hm : n ≤ 1048577) :
    Calls Try.prog 10 #[.slice a n c, .int .i64 wall, .int .i64 f, .int .i64 u] w fun e w' => e = .returned (.tuple #[.int .i64 (roomP xs wall f u).1, .bool (roomP xs wall f u).2]) ∧ E0 w w' := by
  refine enterK Non 29 Try.func10 rfl rfl rfl fun K hK => ?_
  repeat (any_goals (
    conv => whnf
    first
    | ((with_reducible refine callF (g := 26) ?_ ?_); kernel_rfl; refine ⟨_, l27Good_c _ _ _ xs _ (by repeat (first | assumption | refine Row.e0 ?_ (by assumption))) hn (by omega), ?_⟩; intro w4 e4; have z4 := cutLe e4)
    | ((with_reducible refine callF (g := 30) ?_ ?_); kernel_rfl; refine ⟨_, l27Wall_c _ _, ?_⟩; intro w4 e4; have z4 := cutLe e4)
    | ((with_reducible refine callF (g := 31) ?_ ?_); kernel_rfl; refine ⟨_, l27Days_c _ _ _, ?_⟩; intro w4 e4; have z4 := cutLe e4)
    | ((with_reducible refine callF (g := 32) ?_ ?_); kernel_rfl; refine ⟨_, l27Room_c _ _ _ xs _ _ _ _ (by repeat (first | assumption | refine Row.e0 ?_ (by assumption))) hn (by omega), ?_⟩; intro w4 e4; have z4 := cutLe e4)
    | ((with_reducible refine BIF.dec ?_ ?_) <;> intro _)
    | ((with_reducible refine BIF.s ?_ ?_) <;> intro _)
    | (with_reducible refine NEXTK.normal ?_)
    | (with_reducible refine NEXTK.ret ?_)
    | (with_reducible refine NEXTK.exit ?_)
    | (with_reducible refine SEQ.plain ?_)
    | (with_reducible refine hK _ _ ?_)
    | ((with_reducible refine RUNL.agg (fun _ => ?_) ?_); (focus kernel_rfl))
    | (with_reducible refine RUNL.run ?_)
    | ((with_reducible refine AR.ok ?_ ?_); exact ⟨by first | omega | (dsimp only; omega), by first | omega | (dsimp only; omega)⟩)
    | (with_reducible refine AR.wr ?_)
    | ((with_reducible intro w3 e3); try have z3 := cutLe e3)
    | ((with_reducible intro h3); have h4 := Nat.le_of_lt h3; clear h4)))
  all_goals
    intro hx
    refine ⟨?_, hx⟩
    unfold roomP
    clear hK
    first
    | (rw [if_pos (by simp_all)]; rfl)
    | (rw [if_neg (by intro h; simp_all <;> omega)]; rfl)
def firstR (p : Int → Bool) (days : Int) : Nat → Int → Int × Bool
  | 0, _ => (0, false)
  | fuel + 1, day => if day + days - 1 ≤ 4000 then (if p day then (day, true) else firstR p days fuel (day + 1)) else (0, false)
def roomy (xs : List Frm) (wide wall days : Int) (day : Int) : Bool := decide (wide ≤ roomF xs wall day (day + days - 1))
def firstOk (xs : List Frm) (wide wall f days : Int) : Bool := areF xs && inB wide 10 500 && inB wall 1 4 && inB f 0 4000 && inB days 1 400
def firstP (xs : List Frm) (wide wall f days : Int) : Int × Bool := if firstOk xs wide wall f days then firstR (roomy xs wide wall days) days 4002 f else (0, false)
theorem firstR_stop {p : Int → Bool} {days day : Int} {fuel : Nat} (h : ¬ day + days - 1 ≤ 4000) : firstR p days (fuel + 1) day = (0, false) := by simp only [firstR, if_neg h]
theorem firstR_hit {p : Int → Bool} {days day : Int} {fuel : Nat} (h : day + days - 1 ≤ 4000) (hp : p day = true) : firstR p days (fuel + 1) day = (day, true) := by simp only [firstR, if_pos h, if_pos hp]
theorem firstR_next {p : Int → Bool} {days day : Int} {fuel : Nat} (h : day + days - 1 ≤ 4000) (hp : ¬ p day = true) : firstR p days (fuel + 1) day = firstR p days fuel (day + 1) := by simp only [firstR, if_pos h, if_neg hp]

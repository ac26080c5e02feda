/- The room on a wall. -/
import Derived.Test.YthgeeocmhdpgiaaDoorRows
import Derived.Test.YthgeeocmhdpgiaaDoorFrames3
namespace Go.Proofs.YthgeeocmhdpgiaaDoor
open Go Go.X Go.Proofs Go.ChangeShapes Go.WideShapes Go.ChangeAt Go.RowKit
open Go.ChangeMaps (open_string shut_string)
set_option maxHeartbeats 1000000
set_option maxRecDepth 20000
set_option linter.unusedVariables false
set_option linter.unusedSimpArgs false
def roomStep (xs : List Frm) (wall f u : Int) (m : Int) (x : Frm) : Int := if inB x.fFrom f u then max m (wOn xs wall x.fFrom) else m
def roomMost (xs : List Frm) (wall f u : Int) (k : Nat) : Int := (xs.take k).foldl (roomStep xs wall f u) (wOn xs wall f)
theorem roomMost_at {xs : List Frm} {k : Nat} {x : Frm} (wall f u : Int) (h : xs[k]? = some x) : roomMost xs wall f u (k + 1) = roomStep xs wall f u (roomMost xs wall f u k) x := by
  unfold roomMost
  rw [List.take_add_one, h]; simp
def roomF (xs : List Frm) (wall f u : Int) : Int := IntKind.i64.wrap (1000 - roomMost xs wall f u xs.length)
theorem roomFor_c (a : Option Addr) (n c : Nat) (xs : List Frm) (wall f u : Int) (w : World) (hr : Row w a 5 (xs.map encFrm)) (hn : xs.length = n) (hm : n ≤ 1048577) :
    Calls Tryd.prog 39 #[.slice a n c, .int .i64 wall, .int .i64 f, .int .i64 u] w fun e w' => e = .returned (.int .i64 (roomF xs wall f u)) ∧ E0 w w' := by
  refine enterK Non 37 Tryd.func39 rfl rfl rfl fun K hK => ?_
  repeat (any_goals (
    conv => whnf
    first
    | ((with_reducible refine callF (g := 68) ?_ ?_); kernel_rfl; refine ⟨_, widthOn_c _ _ _ xs _ _ _ (by repeat (first | assumption | refine Row.e0 ?_ (by assumption))) hn (by omega), ?_⟩; intro w4 e4; have z4 := cutLe e4)
    | ((with_reducible refine BIF.dec ?_ ?_) <;> intro _)
    | ((with_reducible refine BIF.s ?_ ?_) <;> intro _)
    | (with_reducible refine NEXTK.normal ?_)
    | (with_reducible refine NEXTK.ret ?_)
    | (with_reducible refine NEXTK.exit ?_)
    | (with_reducible refine SEQ.plain ?_)
    | (with_reducible refine hK _ _ ?_)
    | ((with_reducible refine RUNL.agg (fun _ => ?_) ?_); (focus kernel_rfl))
    | (with_reducible refine RUNL.run ?_)
    | ((with_reducible refine AR.ok ?_ ?_); exact ⟨by first | omega | (dsimp only; omega), by first | omega | (dsimp only; omega)⟩)
    | (with_reducible refine AR.wr ?_)
    | ((with_reducible intro w3 e3); try have z3 := cutLe e3)
    | ((with_reducible intro h3); have h4 := Nat.le_of_lt h3; clear h4)))
  conv => whnf
  refine LOOP.mk (Nat × Int) (fun g => [(18, .v (.int .i64 g.1)), (9, .v (.int .i64 g.2))]) (fun g _ => g.1 ≤ n ∧ g.2 = roomMost xs wall f u g.1) (fun g => n - g.1) (0, wOn xs wall f) rfl ⟨rfl, rfl, trivial⟩ ⟨Nat.zero_le _, rfl⟩ ?_
  rintro ⟨j, s⟩ wr - ⟨hj, hs'⟩
  simp only at hj hs'
  conv => whnf
  repeat (first | ((with_reducible refine NEXTK.normal ?_); conv => whnf) | ((with_reducible refine NEXTK.exit ?_); conv => whnf) | ((with_reducible refine NEXTK.ret ?_); conv => whnf) | ((with_reducible refine SEQ.plain ?_); conv => whnf) | ((with_reducible refine AR.ok ?_ ?_); exact ⟨by omega, by omega⟩; conv => whnf))
  refine BIF.dec (fun hlt => ?_) (fun hlt => ?_)
  · have hlt' : j < xs.length := by omega
    have his := hr.isSome (by simp; omega)
    obtain ⟨x, hx⟩ : ∃ x, xs[j]? = some x := ⟨xs[j]'(by omega), by simp⟩
    have ht := roomMost_at wall f u hx
    repeat (any_goals (
      conv => whnf
      first
      | ((with_reducible refine OBL.mk ?_ (fun _ => ?_)); exact ⟨by first | omega | (dsimp only; omega), by first | omega | (dsimp only; omega), his⟩)
      | ((with_reducible refine ELD.at (j) hr ?_ ?_ ?_ (fun x' hx' => ?_)); exact mAddr_Non _; (first | rfl | omega); exact hlt'; obtain rfl : x = x' := by (rw [hx] at hx'; exact Option.some.inj hx'))
      | ((with_reducible refine callF (g := 48) ?_ ?_); kernel_rfl; refine ⟨_, within_c _ _ _ _, ?_⟩; intro w4 e4; have z4 := cutLe e4)
      | ((with_reducible refine callX (g := 68) ?_ ?_); kernel_rfl; intro hX; refine ⟨_, widthOn_c _ _ _ xs _ _ _ (hr.ext hX (mAddr_Non _)) hn (by omega), ?_⟩; intro w4 e4; have z4 := cutLe e4)
      | ((with_reducible refine BIF.dec ?_ ?_) <;> intro _)
      | ((with_reducible refine BIF.s ?_ ?_) <;> intro _)
      | (with_reducible refine NEXTK.normal ?_)
      | (with_reducible refine NEXTK.ret ?_)
      | (with_reducible refine NEXTK.exit ?_)
      | (with_reducible refine SEQ.plain ?_)
      | (with_reducible refine hK _ _ ?_)
      | ((with_reducible refine RUNL.agg (fun _ => ?_) ?_); (focus kernel_rfl))
      | (with_reducible refine RUNL.run ?_)
      | ((with_reducible refine AR.ok ?_ ?_); exact ⟨by first | omega | (dsimp only; omega), by first | omega | (dsimp only; omega)⟩)
      | (with_reducible refine AR.wr ?_)
      | ((with_reducible intro w3 e3); try have z3 := cutLe e3)
      | ((with_reducible intro h3); have h4 := Nat.le_of_lt h3; clear h4)))
    all_goals
      refine ⟨(j + 1, _), rfl, ⟨rfl, rfl, trivial⟩, rfl, rfl, ⟨by simp only; omega, ?_⟩, by simp only; omega⟩
      simp_all [roomStep]
  · have hkj : j = xs.length := by omega
    have hroom : IntKind.i64.wrap (1000 - s) = roomF xs wall f u := by rw [hs', hkj]; rfl
    repeat (any_goals (
      conv => whnf
      first
      | ((with_reducible refine AR.gen hroom ?_))
      | ((with_reducible refine BIF.dec ?_ ?_) <;> intro _)
      | ((with_reducible refine BIF.s ?_ ?_) <;> intro _)
      | (with_reducible refine NEXTK.normal ?_)
      | (with_reducible refine NEXTK.ret ?_)
      | (with_reducible refine NEXTK.exit ?_)
      | (with_reducible refine SEQ.plain ?_)
      | (with_reducible refine hK _ _ ?_)
      | ((with_reducible refine RUNL.agg (fun _ => ?_) ?_); (focus kernel_rfl))
      | (with_reducible refine RUNL.run ?_)
      | ((with_reducible refine AR.ok ?_ ?_); exact ⟨by first | omega | (dsimp only; omega), by first | omega | (dsimp only; omega)⟩)
      | (with_reducible refine AR.wr ?_)
      | ((with_reducible intro w3 e3); try have z3 := cutLe e3)
      | ((with_reducible intro h3); have h4 := Nat.le_of_lt h3; clear h4)))
    intro hx
    exact ⟨rfl, hx⟩
theorem l27Room_c (a : Option Addr) (n c : Nat) (xs : List Frm) (wall f u : Int) (w : World) (hr : Row w a 5 (xs.map encFrm)) (hn : xs.length = n) (hm : n ≤ 1048577) :
    Calls Tryd.prog 43 #[.slice a n c, .int .i64 wall, .int .i64 f, .int .i64 u] w fun e w' => e = .returned (.int .i64 (roomF xs wall f u)) ∧ E0 w w' := by
  refine enterK Non 41 Tryd.func43 rfl rfl rfl fun K hK => ?_
  repeat (any_goals (
    conv => whnf
    first
    | ((with_reducible refine callF (g := 69) ?_ ?_); kernel_rfl; refine ⟨_, l27Width_c _ _ _ xs _ _ _ (by repeat (first | assumption | refine Row.e0 ?_ (by assumption))) hn (by omega), ?_⟩; intro w4 e4; have z4 := cutLe e4)
    | ((with_reducible refine BIF.dec ?_ ?_) <;> intro _)
    | ((with_reducible refine BIF.s ?_ ?_) <;> intro _)
    | (with_reducible refine NEXTK.normal ?_)
    | (with_reducible refine NEXTK.ret ?_)
    | (with_reducible refine NEXTK.exit ?_)
    | (with_reducible refine SEQ.plain ?_)
    | (with_reducible refine hK _ _ ?_)
    | ((with_reducible refine RUNL.agg (fun _ => ?_) ?_); (focus kernel_rfl))
    | (with_reducible refine RUNL.run ?_)
    | ((with_reducible refine AR.ok ?_ ?_); exact ⟨by first | omega | (dsimp only; omega), by first | omega | (dsimp only; omega)⟩)
    | (with_reducible refine AR.wr ?_)
    | ((with_reducible intro w3 e3); try have z3 := cutLe e3)
    | ((with_reducible intro h3); have h4 := Nat.le_of_lt h3; clear h4)))
  conv => whnf
  refine LOOP.mk (Nat × Int) (fun g => [(10, .v (.int .i64 g.1)), (9, .v (.int .i64 g.2))]) (fun g _ => g.1 ≤ n ∧ g.2 = roomMost xs wall f u g.1) (fun g => n - g.1) (0, wOn xs wall f) rfl ⟨rfl, rfl, trivial⟩ ⟨Nat.zero_le _, rfl⟩ ?_
  rintro ⟨j, s⟩ wr - ⟨hj, hs'⟩
  simp only at hj hs'
  conv => whnf
  repeat (first | ((with_reducible refine NEXTK.normal ?_); conv => whnf) | ((with_reducible refine NEXTK.exit ?_); conv => whnf) | ((with_reducible refine NEXTK.ret ?_); conv => whnf) | ((with_reducible refine SEQ.plain ?_); conv => whnf) | ((with_reducible refine AR.ok ?_ ?_); exact ⟨by omega, by omega⟩; conv => whnf))
  refine BIF.dec (fun hlt => ?_) (fun hlt => ?_)
  · have hlt' : j < xs.length := by omega
    have his := hr.isSome (by simp; omega)
    obtain ⟨x, hx⟩ : ∃ x, xs[j]? = some x := ⟨xs[j]'(by omega), by simp⟩
    have ht := roomMost_at wall f u hx
    repeat (any_goals (
      conv => whnf
      first
      | ((with_reducible refine OBL.mk ?_ (fun _ => ?_)); exact ⟨by first | omega | (dsimp only; omega), by first | omega | (dsimp only; omega), his⟩)
      | ((with_reducible refine ELD.at (j) hr ?_ ?_ ?_ (fun x' hx' => ?_)); exact mAddr_Non _; (first | rfl | omega); exact hlt'; obtain rfl : x = x' := by (rw [hx] at hx'; exact Option.some.inj hx'))
      | ((with_reducible refine callF (g := 64) ?_ ?_); kernel_rfl; refine ⟨_, l1In_c _ _ _ _, ?_⟩; intro w4 e4; have z4 := cutLe e4)
      | ((with_reducible refine callF (g := 70) ?_ ?_); kernel_rfl; refine ⟨_, l1Most_c _ _ _, ?_⟩; intro w4 e4; have z4 := cutLe e4)
      | ((with_reducible refine callX (g := 69) ?_ ?_); kernel_rfl; intro hX; refine ⟨_, l27Width_c _ _ _ xs _ _ _ (hr.ext hX (mAddr_Non _)) hn (by omega), ?_⟩; intro w4 e4; have z4 := cutLe e4)
      | ((with_reducible refine BIF.dec ?_ ?_) <;> intro _)
      | ((with_reducible refine BIF.s ?_ ?_) <;> intro _)
      | (with_reducible refine NEXTK.normal ?_)
      | (with_reducible refine NEXTK.ret ?_)
      | (with_reducible refine NEXTK.exit ?_)
      | (with_reducible refine SEQ.plain ?_)
      | (with_reducible refine hK _ _ ?_)
      | ((with_reducible refine RUNL.agg (fun _ => ?_) ?_); (focus kernel_rfl))
      | (with_reducible refine RUNL.run ?_)
      | ((with_reducible refine AR.ok ?_ ?_); exact ⟨by first | omega | (dsimp only; omega), by first | omega | (dsimp only; omega)⟩)
      | (with_reducible refine AR.wr ?_)
      | ((with_reducible intro w3 e3); try have z3 := cutLe e3)
      | ((with_reducible intro h3); have h4 := Nat.le_of_lt h3; clear h4)))
    all_goals
      refine ⟨(j + 1, _), rfl, ⟨rfl, rfl, trivial⟩, rfl, rfl, ⟨by simp only; omega, ?_⟩, by simp only; omega⟩
      simp_all [roomStep]
  · have hkj : j = xs.length := by omega
    have hroom : IntKind.i64.wrap (1000 - s) = roomF xs wall f u := by rw [hs', hkj]; rfl
    repeat (any_goals (
      conv => whnf
      first
      | ((with_reducible refine AR.gen hroom ?_))
      | ((with_reducible refine BIF.dec ?_ ?_) <;> intro _)
      | ((with_reducible refine BIF.s ?_ ?_) <;> intro _)
      | (with_reducible refine NEXTK.normal ?_)
      | (with_reducible refine NEXTK.ret ?_)
      | (with_reducible refine NEXTK.exit ?_)
      | (with_reducible refine SEQ.plain ?_)
      | (with_reducible refine hK _ _ ?_)
      | ((with_reducible refine RUNL.agg (fun _ => ?_) ?_); (focus kernel_rfl))
      | (with_reducible refine RUNL.run ?_)
      | ((with_reducible refine AR.ok ?_ ?_); exact ⟨by first | omega | (dsimp only; omega), by first | omega | (dsimp only; omega)⟩)
      | (with_reducible refine AR.wr ?_)
      | ((with_reducible intro w3 e3); try have z3 := cutLe e3)
      | ((with_reducible intro h3); have h4 := Nat.le_of_lt h3; clear h4)))
    intro hx
    exact ⟨rfl, hx⟩
theorem l27Days_c (a b : Int) (w : World) : Calls Tryd.prog 42 #[.int .i64 a, .int .i64 b] w fun e w' => e = .returned (.bool (inB a 0 4000 && inB b 0 4000 && decide (a ≤ b))) ∧ E0 w w' := by
  refine enterK Non 16 Tryd.func42 rfl rfl rfl fun K hK => ?_
  repeat (any_goals (
    conv => whnf
    first
    | ((with_reducible refine callF (g := 63) ?_ ?_); kernel_rfl; refine ⟨_, l2Day_c _ _, ?_⟩; intro w4 e4; have z4 := cutLe e4)
    | ((with_reducible refine BIF.dec ?_ ?_) <;> intro _)
    | ((with_reducible refine BIF.s ?_ ?_) <;> intro _)
    | (with_reducible refine NEXTK.normal ?_)
    | (with_reducible refine NEXTK.ret ?_)
    | (with_reducible refine NEXTK.exit ?_)
    | (with_reducible refine SEQ.plain ?_)
    | (with_reducible refine hK _ _ ?_)
    | ((with_reducible refine RUNL.agg (fun _ => ?_) ?_); (focus kernel_rfl))
    | (with_reducible refine RUNL.run ?_)
    | ((with_reducible refine AR.ok ?_ ?_); exact ⟨by first | omega | (dsimp only; omega), by first | omega | (dsimp only; omega)⟩)
    | (with_reducible refine AR.wr ?_)
    | ((with_reducible intro w3 e3); try have z3 := cutLe e3)
    | ((with_reducible intro h3); have h4 := Nat.le_of_lt h3; clear h4)))
  all_goals
    intro hx
    refine ⟨?_, hx⟩
    simp_all [resV]
def roomP (xs : List Frm) (wall f u : Int) : Int × Bool := if areF xs && inB wall 1 4 && (inB f 0 4000 && inB u 0 4000 && decide (f ≤ u)) then (roomF xs wall f u, true) else (0, false)
theorem RoomFor_c (a : Option Addr) (n c : Nat) (xs : List Frm) (wall f u : Int) (w : World) (hr : Row w a 5 (xs.map encFrm)) (hn : xs.length = n) (hm : n ≤ 1048577) :
    Calls Tryd.prog 13 #[.slice a n c, .int .i64 wall, .int .i64 f, .int .i64 u] w fun e w' => e = .returned (.tuple #[.int .i64 (roomP xs wall f u).1, .bool (roomP xs wall f u).2]) ∧ E0 w w' := by
  refine enterK Non 29 Tryd.func13 rfl rfl rfl fun K hK => ?_
  repeat (any_goals (
    conv => whnf
    first
    | ((with_reducible refine callF (g := 36) ?_ ?_); kernel_rfl; refine ⟨_, AreFrames_c _ _ _ xs _ (by repeat (first | assumption | refine Row.e0 ?_ (by assumption))) hn (by omega), ?_⟩; intro w4 e4; have z4 := cutLe e4)
    | ((with_reducible refine callF (g := 44) ?_ ?_); kernel_rfl; refine ⟨_, isHungWall_c _ _, ?_⟩; intro w4 e4; have z4 := cutLe e4)
    | ((with_reducible refine callF (g := 38) ?_ ?_); kernel_rfl; refine ⟨_, areDays_c _ _ _, ?_⟩; intro w4 e4; have z4 := cutLe e4)
    | ((with_reducible refine callF (g := 39) ?_ ?_); kernel_rfl; refine ⟨_, roomFor_c _ _ _ xs _ _ _ _ (by repeat (first | assumption | refine Row.e0 ?_ (by assumption))) hn (by omega), ?_⟩; intro w4 e4; have z4 := cutLe e4)
    | ((with_reducible refine BIF.dec ?_ ?_) <;> intro _)
    | ((with_reducible refine BIF.s ?_ ?_) <;> intro _)
    | (with_reducible refine NEXTK.normal ?_)
    | (with_reducible refine NEXTK.ret ?_)
    | (with_reducible refine NEXTK.exit ?_)
    | (with_reducible refine SEQ.plain ?_)
    | (with_reducible refine hK _ _ ?_)
    | ((with_reducible refine RUNL.agg (fun _ => ?_) ?_); (focus kernel_rfl))
    | (with_reducible refine RUNL.run ?_)
    | ((with_reducible refine AR.ok ?_ ?_); exact ⟨by first | omega | (dsimp only; omega), by first | omega | (dsimp only; omega)⟩)
    | (with_reducible refine AR.wr ?_)
    | ((with_reducible intro w3 e3); try have z3 := cutLe e3)
    | ((with_reducible intro h3); have h4 := Nat.le_of_lt h3; clear h4)))
  all_goals
    intro hx
    refine ⟨?_, hx⟩
    unfold roomP
    clear hK
    first
    | (rw [if_pos (by simp_all)]; rfl)
    | (rw [if_neg (by intro h; simp_all <;> omega)]; rfl)
def firstR (p : Int → Bool) (days : Int) : Nat → Int → Int × Bool
  | 0, _ => (0, false)
  | fuel + 1, day => if day + days - 1 ≤ 4000 then (if p day then (day, true) else firstR p days fuel (day + 1)) else (0, false)
def roomy (xs : List Frm) (wide wall days : Int) (day : Int) : Bool := decide (wide ≤ roomF xs wall day (day + days - 1))
def firstOk (xs : List Frm) (wide wall f days : Int) : Bool := areF xs && inB wide 10 500 && inB wall 1 4 && inB f 0 4000 && inB days 1 400
def firstP (xs : List Frm) (wide wall f days : Int) : Int × Bool := if firstOk xs wide wall f days then firstR (roomy xs wide wall days) days 4002 f else (0, false)
theorem firstR_stop {p : Int → Bool} {days day : Int} {fuel : Nat} (h : ¬ day + days - 1 ≤ 4000) : firstR p days (fuel + 1) day = (0, false) := by simp only [firstR, if_neg h]
theorem firstR_hit {p : Int → Bool} {days day : Int} {fuel : Nat} (h : day + days - 1 ≤ 4000) (hp : p day = true) : firstR p days (fuel + 1) day = (day, true) := by simp only [firstR, if_pos h, if_pos hp]
theorem firstR_next {p : Int → Bool} {days day : Int} {fuel : Nat} (h : day + days - 1 ≤ 4000) (hp : ¬ p day = true) : firstR p days (fuel + 1) day = firstR p days fuel (day + 1) := by simp only [firstR, if_pos h, if_neg hp]
theorem FirstRoom_c (a : Option Addr) (n c : Nat) (xs : List Frm) (wide wall f days : Int) (w : World) (hr : Row w a 5 (xs.map encFrm)) (hn : xs.length = n) (hm : n ≤ 1048577) :
    Calls Tryd.prog 23 #[.slice a n c, .int .i64 wide, .int .i64 wall, .int .i64 f, .int .i64 days] w fun e w' => e = .returned (.tuple #[.int .i64 (firstP xs wide wall f days).1, .bool (firstP xs wide wall f days).2]) ∧ E0 w w' := by
  refine enterK Non 55 Tryd.func23 rfl rfl rfl fun K hK => ?_
  by_cases ho : areF xs = true ∧ inB wide 10 500 = true ∧ inB wall 1 4 = true ∧ inB f 0 4000 = true ∧ inB days 1 400 = true
  · have hok : firstOk xs wide wall f days = true := by simp [firstOk, ho]
    have hf : firstP xs wide wall f days = firstR (roomy xs wide wall days) days 4002 f := by simp [firstP, hok]
    have h1 := inB_iff.1 ho.2.2.2.1
    have h2 := inB_iff.1 ho.2.2.2.2
    repeat (any_goals (
      conv => whnf
      first
      | ((with_reducible refine callF (g := 36) ?_ ?_); kernel_rfl; refine ⟨_, AreFrames_c _ _ _ xs _ (by repeat (first | assumption | refine Row.e0 ?_ (by assumption))) hn (by omega), ?_⟩; intro w4 e4; have z4 := cutLe e4)
      | ((with_reducible refine callF (g := 37) ?_ ?_); kernel_rfl; refine ⟨_, isWidth_c _ _, ?_⟩; intro w4 e4; have z4 := cutLe e4)
      | ((with_reducible refine callF (g := 44) ?_ ?_); kernel_rfl; refine ⟨_, isHungWall_c _ _, ?_⟩; intro w4 e4; have z4 := cutLe e4)
      | ((with_reducible refine callF (g := 51) ?_ ?_); kernel_rfl; refine ⟨_, isDay_c _ _, ?_⟩; intro w4 e4; have z4 := cutLe e4)
      | ((with_reducible refine callF (g := 48) ?_ ?_); kernel_rfl; refine ⟨_, within_c _ _ _ _, ?_⟩; intro w4 e4; have z4 := cutLe e4)
      | ((exfalso; clear hK; simp_all <;> omega))
      | ((with_reducible refine BIF.dec ?_ ?_) <;> intro _)
      | ((with_reducible refine BIF.s ?_ ?_) <;> intro _)
      | (with_reducible refine NEXTK.normal ?_)
      | (with_reducible refine NEXTK.ret ?_)
      | (with_reducible refine NEXTK.exit ?_)
      | (with_reducible refine SEQ.plain ?_)
      | (with_reducible refine hK _ _ ?_)
      | ((with_reducible refine RUNL.agg (fun _ => ?_) ?_); (focus kernel_rfl))
      | (with_reducible refine RUNL.run ?_)
      | ((with_reducible refine AR.ok ?_ ?_); exact ⟨by first | omega | (dsimp only; omega), by first | omega | (dsimp only; omega)⟩)
      | (with_reducible refine AR.wr ?_)
      | ((with_reducible intro w3 e3); try have z3 := cutLe e3)
      | ((with_reducible intro h3); have h4 := Nat.le_of_lt h3; clear h4)))
    conv => whnf
    refine LOOP.mk Nat (fun t => [(12, .v (.int .i64 (f + (t : Int))))]) (fun t _ => t ≤ 4001 ∧ firstR (roomy xs wide wall days) days (4002 - t) (f + (t : Int)) = firstR (roomy xs wide wall days) days 4002 f) (fun t => 4002 - t) 0 rfl ⟨by simp [lk, Nat.beq], trivial⟩ ⟨by omega, by simp⟩ ?_
    rintro t wt - ⟨ht, hs⟩
    obtain ⟨q, hq⟩ : ∃ q, 4002 - t = q + 1 := ⟨4001 - t, by omega⟩
    rw [hq] at hs
    by_cases hin : f + (t : Int) + days - 1 ≤ 4000
    · have hib : inB (f + (t : Int) + days - 1) 0 4000 = true := inB_iff.2 ⟨by omega, hin⟩
      by_cases hp : roomy xs wide wall days (f + (t : Int)) = true
      · have hp2 : wide ≤ roomF xs wall (f + (t : Int)) (f + (t : Int) + days - 1) := by simpa [roomy] using hp
        repeat (any_goals (
          conv => whnf
          first
          | ((with_reducible refine callF (g := 51) ?_ ?_); kernel_rfl; refine ⟨_, isDay_c _ _, ?_⟩; intro w4 e4; have z4 := cutLe e4)
          | ((with_reducible refine BIF.dec ?_ ?_) <;> intro _)
          | ((with_reducible refine BIF.s ?_ ?_) <;> intro hbad)
          | ((exfalso; rw [hib] at hbad; exact absurd hbad (by decide)))
          | ((with_reducible refine callX (g := 39) ?_ ?_); kernel_rfl; intro hX; refine ⟨_, roomFor_c _ _ _ xs _ _ _ _ (hr.ext hX (mAddr_Non _)) hn (by omega), ?_⟩; intro w4 e4; have z4 := cutLe e4)
          | ((exfalso; omega))
          | ((with_reducible refine BIF.dec ?_ ?_) <;> intro _)
          | ((with_reducible refine BIF.s ?_ ?_) <;> intro _)
          | (with_reducible refine NEXTK.normal ?_)
          | (with_reducible refine NEXTK.ret ?_)
          | (with_reducible refine NEXTK.exit ?_)
          | (with_reducible refine SEQ.plain ?_)
          | (with_reducible refine hK _ _ ?_)
          | ((with_reducible refine RUNL.agg (fun _ => ?_) ?_); (focus kernel_rfl))
          | (with_reducible refine RUNL.run ?_)
          | ((with_reducible refine AR.ok ?_ ?_); exact ⟨by first | omega | (dsimp only; omega), by first | omega | (dsimp only; omega)⟩)
          | (with_reducible refine AR.wr ?_)
          | ((with_reducible intro w3 e3); try have z3 := cutLe e3)
          | ((with_reducible intro h3); have h4 := Nat.le_of_lt h3; clear h4)))
        intro hx
        refine ⟨?_, hx⟩
        rw [hf, ← hs, firstR_hit hin hp]; rfl
      · have hp2 : ¬ wide ≤ roomF xs wall (f + (t : Int)) (f + (t : Int) + days - 1) := by simpa [roomy] using hp
        repeat (any_goals (
          conv => whnf
          first
          | ((with_reducible refine callF (g := 51) ?_ ?_); kernel_rfl; refine ⟨_, isDay_c _ _, ?_⟩; intro w4 e4; have z4 := cutLe e4)
          | ((with_reducible refine BIF.dec ?_ ?_) <;> intro _)
          | ((with_reducible refine BIF.s ?_ ?_) <;> intro hbad)
          | ((exfalso; rw [hib] at hbad; exact absurd hbad (by decide)))
          | ((with_reducible refine callX (g := 39) ?_ ?_); kernel_rfl; intro hX; refine ⟨_, roomFor_c _ _ _ xs _ _ _ _ (hr.ext hX (mAddr_Non _)) hn (by omega), ?_⟩; intro w4 e4; have z4 := cutLe e4)
          | ((exfalso; omega))
          | ((with_reducible refine BIF.dec ?_ ?_) <;> intro _)
          | ((with_reducible refine BIF.s ?_ ?_) <;> intro _)
          | (with_reducible refine NEXTK.normal ?_)
          | (with_reducible refine NEXTK.ret ?_)
          | (with_reducible refine NEXTK.exit ?_)
          | (with_reducible refine SEQ.plain ?_)
          | (with_reducible refine hK _ _ ?_)
          | ((with_reducible refine RUNL.agg (fun _ => ?_) ?_); (focus kernel_rfl))
          | (with_reducible refine RUNL.run ?_)
          | ((with_reducible refine AR.ok ?_ ?_); exact ⟨by first | omega | (dsimp only; omega), by first | omega | (dsimp only; omega)⟩)
          | (with_reducible refine AR.wr ?_)
          | ((with_reducible intro w3 e3); try have z3 := cutLe e3)
          | ((with_reducible intro h3); have h4 := Nat.le_of_lt h3; clear h4)))
        refine ⟨t + 1, rfl, ⟨?_, trivial⟩, rfl, rfl, ⟨by omega, ?_⟩, by omega⟩
        · simp [lk, Nat.beq]; omega
        · rw [← hs, firstR_next hin hp, show 4002 - (t + 1) = q from by omega, show f + ((t + 1 : Nat) : Int) = f + (t : Int) + 1 from by omega]
    · have hib : inB (f + (t : Int) + days - 1) 0 4000 = false := by
        cases h : inB (f + (t : Int) + days - 1) 0 4000 with
        | false => rfl
        | true => exact absurd (inB_iff.1 h).2 hin
      repeat (any_goals (
        conv => whnf
        first
        | ((with_reducible refine callF (g := 51) ?_ ?_); kernel_rfl; refine ⟨_, isDay_c _ _, ?_⟩; intro w4 e4; have z4 := cutLe e4)
        | ((with_reducible refine BIF.dec ?_ ?_) <;> intro _)
        | ((with_reducible refine BIF.s ?_ ?_) <;> intro hbad)
        | ((exfalso; rw [hib] at hbad; exact absurd hbad (by decide)))
        | ((with_reducible refine BIF.dec ?_ ?_) <;> intro _)
        | ((with_reducible refine BIF.s ?_ ?_) <;> intro _)
        | (with_reducible refine NEXTK.normal ?_)
        | (with_reducible refine NEXTK.ret ?_)
        | (with_reducible refine NEXTK.exit ?_)
        | (with_reducible refine SEQ.plain ?_)
        | (with_reducible refine hK _ _ ?_)
        | ((with_reducible refine RUNL.agg (fun _ => ?_) ?_); (focus kernel_rfl))
        | (with_reducible refine RUNL.run ?_)
        | ((with_reducible refine AR.ok ?_ ?_); exact ⟨by first | omega | (dsimp only; omega), by first | omega | (dsimp only; omega)⟩)
        | (with_reducible refine AR.wr ?_)
        | ((with_reducible intro w3 e3); try have z3 := cutLe e3)
        | ((with_reducible intro h3); have h4 := Nat.le_of_lt h3; clear h4)))
      intro hx
      refine ⟨?_, hx⟩
      rw [hf, ← hs, firstR_stop hin]; rfl
  · have hok : firstOk xs wide wall f days = false := by
      cases h : firstOk xs wide wall f days with
      | false => rfl
      | true => exact absurd (by simpa [firstOk, and_assoc] using h) ho
    have hf : firstP xs wide wall f days = (0, false) := by simp [firstP, hok]
    repeat (any_goals (
      conv => whnf
      first
      | ((with_reducible refine callF (g := 36) ?_ ?_); kernel_rfl; refine ⟨_, AreFrames_c _ _ _ xs _ (by repeat (first | assumption | refine Row.e0 ?_ (by assumption))) hn (by omega), ?_⟩; intro w4 e4; have z4 := cutLe e4)
      | ((with_reducible refine callF (g := 37) ?_ ?_); kernel_rfl; refine ⟨_, isWidth_c _ _, ?_⟩; intro w4 e4; have z4 := cutLe e4)
      | ((with_reducible refine callF (g := 44) ?_ ?_); kernel_rfl; refine ⟨_, isHungWall_c _ _, ?_⟩; intro w4 e4; have z4 := cutLe e4)
      | ((with_reducible refine callF (g := 51) ?_ ?_); kernel_rfl; refine ⟨_, isDay_c _ _, ?_⟩; intro w4 e4; have z4 := cutLe e4)
      | ((with_reducible refine callF (g := 48) ?_ ?_); kernel_rfl; refine ⟨_, within_c _ _ _ _, ?_⟩; intro w4 e4; have z4 := cutLe e4)
      | ((exfalso; clear hK; simp_all <;> omega))
      | ((with_reducible refine BIF.dec ?_ ?_) <;> intro _)
      | ((with_reducible refine BIF.s ?_ ?_) <;> intro _)
      | (with_reducible refine NEXTK.normal ?_)
      | (with_reducible refine NEXTK.ret ?_)
      | (with_reducible refine NEXTK.exit ?_)
      | (with_reducible refine SEQ.plain ?_)
      | (with_reducible refine hK _ _ ?_)
      | ((with_reducible refine RUNL.agg (fun _ => ?_) ?_); (focus kernel_rfl))
      | (with_reducible refine RUNL.run ?_)
      | ((with_reducible refine AR.ok ?_ ?_); exact ⟨by first | omega | (dsimp only; omega), by first | omega | (dsimp only; omega)⟩)
      | (with_reducible refine AR.wr ?_)
      | ((with_reducible intro w3 e3); try have z3 := cutLe e3)
      | ((with_reducible intro h3); have h4 := Nat.le_of_lt h3; clear h4)))
    all_goals
      intro hx'
      rw [hf]
      exact ⟨rfl, hx'⟩
theorem FirstRoomS_c (a : Option Addr) (n c : Nat) (xs : List Frm) (wide wall f days : Int) (w : World) (hr : Row w a 5 (xs.map encFrm)) (hn : xs.length = n) (hm : n ≤ 1048577) :
    Calls Tryd.prog 24 #[.slice a n c, .int .i64 wide, .int .i64 wall, .int .i64 f, .int .i64 days] w fun e w' => e = .returned (.tuple #[.int .i64 (firstP xs wide wall f days).1, .bool (firstP xs wide wall f days).2]) ∧ E0 w w' := by
  refine enterK Non 55 Tryd.func24 rfl rfl rfl fun K hK => ?_
  by_cases ho : areF xs = true ∧ inB wide 10 500 = true ∧ inB wall 1 4 = true ∧ inB f 0 4000 = true ∧ inB days 1 400 = true
  · have hok : firstOk xs wide wall f days = true := by simp [firstOk, ho]
    have hf : firstP xs wide wall f days = firstR (roomy xs wide wall days) days 4002 f := by simp [firstP, hok]
    have h1 := inB_iff.1 ho.2.2.2.1
    have h2 := inB_iff.1 ho.2.2.2.2
    repeat (any_goals (
      conv => whnf
      first
      | ((with_reducible refine callF (g := 40) ?_ ?_); kernel_rfl; refine ⟨_, l27Good_c _ _ _ xs _ (by repeat (first | assumption | refine Row.e0 ?_ (by assumption))) hn (by omega), ?_⟩; intro w4 e4; have z4 := cutLe e4)
      | ((with_reducible refine callF (g := 41) ?_ ?_); kernel_rfl; refine ⟨_, l27Wide_c _ _, ?_⟩; intro w4 e4; have z4 := cutLe e4)
      | ((with_reducible refine callF (g := 62) ?_ ?_); kernel_rfl; refine ⟨_, l27Wall_c _ _, ?_⟩; intro w4 e4; have z4 := cutLe e4)
      | ((with_reducible refine callF (g := 63) ?_ ?_); kernel_rfl; refine ⟨_, l2Day_c _ _, ?_⟩; intro w4 e4; have z4 := cutLe e4)
      | ((with_reducible refine callF (g := 64) ?_ ?_); kernel_rfl; refine ⟨_, l1In_c _ _ _ _, ?_⟩; intro w4 e4; have z4 := cutLe e4)
      | ((exfalso; clear hK; simp_all <;> omega))
      | ((with_reducible refine BIF.dec ?_ ?_) <;> intro _)
      | ((with_reducible refine BIF.s ?_ ?_) <;> intro _)
      | (with_reducible refine NEXTK.normal ?_)
      | (with_reducible refine NEXTK.ret ?_)
      | (with_reducible refine NEXTK.exit ?_)
      | (with_reducible refine SEQ.plain ?_)
      | (with_reducible refine hK _ _ ?_)
      | ((with_reducible refine RUNL.agg (fun _ => ?_) ?_); (focus kernel_rfl))
      | (with_reducible refine RUNL.run ?_)
      | ((with_reducible refine AR.ok ?_ ?_); exact ⟨by first | omega | (dsimp only; omega), by first | omega | (dsimp only; omega)⟩)
      | (with_reducible refine AR.wr ?_)
      | ((with_reducible intro w3 e3); try have z3 := cutLe e3)
      | ((with_reducible intro h3); have h4 := Nat.le_of_lt h3; clear h4)))
    conv => whnf
    refine LOOP.mk Nat (fun t => [(12, .v (.int .i64 (f + (t : Int))))]) (fun t _ => t ≤ 4001 ∧ firstR (roomy xs wide wall days) days (4002 - t) (f + (t : Int)) = firstR (roomy xs wide wall days) days 4002 f) (fun t => 4002 - t) 0 rfl ⟨by simp [lk, Nat.beq], trivial⟩ ⟨by omega, by simp⟩ ?_
    rintro t wt - ⟨ht, hs⟩
    obtain ⟨q, hq⟩ : ∃ q, 4002 - t = q + 1 := ⟨4001 - t, by omega⟩
    rw [hq] at hs
    by_cases hin : f + (t : Int) + days - 1 ≤ 4000
    · by_cases hp : roomy xs wide wall days (f + (t : Int)) = true
      · have hp2 : wide ≤ roomF xs wall (f + (t : Int)) (f + (t : Int) + days - 1) := by simpa [roomy] using hp
        repeat (any_goals (
          conv => whnf
          first
          | ((with_reducible refine callX (g := 43) ?_ ?_); kernel_rfl; intro hX; refine ⟨_, l27Room_c _ _ _ xs _ _ _ _ (hr.ext hX (mAddr_Non _)) hn (by omega), ?_⟩; intro w4 e4; have z4 := cutLe e4)
          | ((exfalso; omega))
          | ((with_reducible refine BIF.dec ?_ ?_) <;> intro _)
          | ((with_reducible refine BIF.s ?_ ?_) <;> intro _)
          | (with_reducible refine NEXTK.normal ?_)
          | (with_reducible refine NEXTK.ret ?_)
          | (with_reducible refine NEXTK.exit ?_)
          | (with_reducible refine SEQ.plain ?_)
          | (with_reducible refine hK _ _ ?_)
          | ((with_reducible refine RUNL.agg (fun _ => ?_) ?_); (focus kernel_rfl))
          | (with_reducible refine RUNL.run ?_)
          | ((with_reducible refine AR.ok ?_ ?_); exact ⟨by first | omega | (dsimp only; omega), by first | omega | (dsimp only; omega)⟩)
          | (with_reducible refine AR.wr ?_)
          | ((with_reducible intro w3 e3); try have z3 := cutLe e3)
          | ((with_reducible intro h3); have h4 := Nat.le_of_lt h3; clear h4)))
        intro hx
        refine ⟨?_, hx⟩
        rw [hf, ← hs, firstR_hit hin hp]; rfl
      · have hp2 : ¬ wide ≤ roomF xs wall (f + (t : Int)) (f + (t : Int) + days - 1) := by simpa [roomy] using hp
        repeat (any_goals (
          conv => whnf
          first
          | ((with_reducible refine callX (g := 43) ?_ ?_); kernel_rfl; intro hX; refine ⟨_, l27Room_c _ _ _ xs _ _ _ _ (hr.ext hX (mAddr_Non _)) hn (by omega), ?_⟩; intro w4 e4; have z4 := cutLe e4)
          | ((exfalso; omega))
          | ((with_reducible refine BIF.dec ?_ ?_) <;> intro _)
          | ((with_reducible refine BIF.s ?_ ?_) <;> intro _)
          | (with_reducible refine NEXTK.normal ?_)
          | (with_reducible refine NEXTK.ret ?_)
          | (with_reducible refine NEXTK.exit ?_)
          | (with_reducible refine SEQ.plain ?_)
          | (with_reducible refine hK _ _ ?_)
          | ((with_reducible refine RUNL.agg (fun _ => ?_) ?_); (focus kernel_rfl))
          | (with_reducible refine RUNL.run ?_)
          | ((with_reducible refine AR.ok ?_ ?_); exact ⟨by first | omega | (dsimp only; omega), by first | omega | (dsimp only; omega)⟩)
          | (with_reducible refine AR.wr ?_)
          | ((with_reducible intro w3 e3); try have z3 := cutLe e3)
          | ((with_reducible intro h3); have h4 := Nat.le_of_lt h3; clear h4)))
        refine ⟨t + 1, rfl, ⟨?_, trivial⟩, rfl, rfl, ⟨by omega, ?_⟩, by omega⟩
        · simp [lk, Nat.beq]; omega
        · rw [← hs, firstR_next hin hp, show 4002 - (t + 1) = q from by omega, show f + ((t + 1 : Nat) : Int) = f + (t : Int) + 1 from by omega]
    · repeat (any_goals (
        conv => whnf
        first
        | ((exfalso; omega))
        | ((with_reducible refine BIF.dec ?_ ?_) <;> intro _)
        | ((with_reducible refine BIF.s ?_ ?_) <;> intro _)
        | (with_reducible refine NEXTK.normal ?_)
        | (with_reducible refine NEXTK.ret ?_)
        | (with_reducible refine NEXTK.exit ?_)
        | (with_reducible refine SEQ.plain ?_)
        | (with_reducible refine hK _ _ ?_)
        | ((with_reducible refine RUNL.agg (fun _ => ?_) ?_); (focus kernel_rfl))
        | (with_reducible refine RUNL.run ?_)
        | ((with_reducible refine AR.ok ?_ ?_); exact ⟨by first | omega | (dsimp only; omega), by first | omega | (dsimp only; omega)⟩)
        | (with_reducible refine AR.wr ?_)
        | ((with_reducible intro w3 e3); try have z3 := cutLe e3)
        | ((with_reducible intro h3); have h4 := Nat.le_of_lt h3; clear h4)))
      intro hx
      refine ⟨?_, hx⟩
      rw [hf, ← hs, firstR_stop hin]; rfl
  · have hok : firstOk xs wide wall f days = false := by
      cases h : firstOk xs wide wall f days with
      | false => rfl
      | true => exact absurd (by simpa [firstOk, and_assoc] using h) ho
    have hf : firstP xs wide wall f days = (0, false) := by simp [firstP, hok]
    repeat (any_goals (
      conv => whnf
      first
      | ((with_reducible refine callF (g := 40) ?_ ?_); kernel_rfl; refine ⟨_, l27Good_c _ _ _ xs _ (by repeat (first | assumption | refine Row.e0 ?_ (by assumption))) hn (by omega), ?_⟩; intro w4 e4; have z4 := cutLe e4)
      | ((with_reducible refine callF (g := 41) ?_ ?_); kernel_rfl; refine ⟨_, l27Wide_c _ _, ?_⟩; intro w4 e4; have z4 := cutLe e4)
      | ((with_reducible refine callF (g := 62) ?_ ?_); kernel_rfl; refine ⟨_, l27Wall_c _ _, ?_⟩; intro w4 e4; have z4 := cutLe e4)
      | ((with_reducible refine callF (g := 63) ?_ ?_); kernel_rfl; refine ⟨_, l2Day_c _ _, ?_⟩; intro w4 e4; have z4 := cutLe e4)
      | ((with_reducible refine callF (g := 64) ?_ ?_); kernel_rfl; refine ⟨_, l1In_c _ _ _ _, ?_⟩; intro w4 e4; have z4 := cutLe e4)
      | ((exfalso; clear hK; simp_all <;> omega))
      | ((with_reducible refine BIF.dec ?_ ?_) <;> intro _)
      | ((with_reducible refine BIF.s ?_ ?_) <;> intro _)
      | (with_reducible refine NEXTK.normal ?_)
      | (with_reducible refine NEXTK.ret ?_)
      | (with_reducible refine NEXTK.exit ?_)
      | (with_reducible refine SEQ.plain ?_)
      | (with_reducible refine hK _ _ ?_)
      | ((with_reducible refine RUNL.agg (fun _ => ?_) ?_); (focus kernel_rfl))
      | (with_reducible refine RUNL.run ?_)
      | ((with_reducible refine AR.ok ?_ ?_); exact ⟨by first | omega | (dsimp only; omega), by first | omega | (dsimp only; omega)⟩)
      | (with_reducible refine AR.wr ?_)
      | ((with_reducible intro w3 e3); try have z3 := cutLe e3)
      | ((with_reducible intro h3); have h4 := Nat.le_of_lt h3; clear h4)))
    all_goals
      intro hx'
      rw [hf]
      exact ⟨rfl, hx'⟩

end Go.Proofs.YthgeeocmhdpgiaaDoor

/- The seat of a reader. -/
import Derived.Test.YtlakfbbnhedcoaaRows
import Derived.Test.YtlakfbbnhedcoaaVisits2
namespace Go.Proofs.Ytlakfbbnhedcoaa
open Go Go.X Go.Proofs Go.ChangeShapes Go.WideShapes Go.ChangeAt Go.RowKit
open Go.ChangeMaps (open_string shut_string)
set_option maxHeartbeats 1000000
set_option maxRecDepth 20000
set_option linter.unusedVariables false
set_option linter.unusedSimpArgs false
instance : Inhabited Vis := ⟨⟨0, 0, 0, 0⟩⟩
def atV (r m : Int) (x : Vis) : Bool := decide (x.fReader = r) && inB m x.fFrom (x.fUntil - 1)
theorem isIn_c (x : Vis) (m : Int) (w : World) (hx : okV x = true) : Calls Try.prog 51 #[.agg (encVis x).toArray, .int .i64 m] w fun e w' => e = .returned (.bool (inB m x.fFrom (x.fUntil - 1))) ∧ E0 w w' := by
  have h := okV_spec hx
  refine enterK Non 12 Try.func51 rfl rfl rfl fun K hK => ?_
  repeat (any_goals (
    conv => whnf
    first
    | ((with_reducible refine callF (g := 49) ?_ ?_); kernel_rfl; refine ⟨_, within_c _ _ _ _, ?_⟩; intro w4 e4; have z4 := cutLe e4)
    | ((with_reducible refine BIF.dec ?_ ?_) <;> intro _)
    | ((with_reducible refine BIF.s ?_ ?_) <;> intro _)
    | (with_reducible refine NEXTK.normal ?_)
    | (with_reducible refine NEXTK.ret ?_)
    | (with_reducible refine NEXTK.exit ?_)
    | (with_reducible refine SEQ.plain ?_)
    | (with_reducible refine hK _ _ ?_)
    | ((with_reducible refine AR.ok ?_ ?_); exact ⟨by first | omega | (dsimp only; omega), by first | omega | (dsimp only; omega)⟩)
    | (with_reducible refine AR.wr ?_)
    | ((with_reducible intro w3 e3); try have z3 := cutLe e3)
    | ((with_reducible intro h3); have h4 := Nat.le_of_lt h3; clear h4)))
  intro hx
  exact ⟨rfl, hx⟩
theorem visitOf1_c (x : Vis) (r m : Int) (p q : Addr) (w : World) (hx : okV x = true) (hp : Row w (some p) 1 [[.int .i64 r]]) (hq : Row w (some q) 1 [[.int .i64 m]]) :
    Calls Try.prog 50 #[.agg (encVis x).toArray, .pointer (some p), .pointer (some q)] w fun e w' => e = .returned (.bool (atV r m x)) ∧ E0 w w' := by
  refine enterK Non 14 Try.func50 rfl rfl rfl fun K hK => ?_
  repeat (any_goals (
    conv => whnf
    first
    | ((with_reducible refine ELD.old [[.int .i64 r]] [.int .i64 r] hp ?_ ?_ ?_); exact mAddr_Non _; rfl)
    | ((with_reducible refine ELD.old [[.int .i64 m]] [.int .i64 m] hq ?_ ?_ ?_); exact mAddr_Non _; rfl)
    | ((with_reducible refine callF (g := 51) ?_ ?_); kernel_rfl; refine ⟨_, isIn_c _ _ _ hx, ?_⟩; intro w4 e4; have z4 := cutLe e4)
    | ((with_reducible refine BIF.beq ?_ ?_) <;> intro _)
    | ((with_reducible refine BIF.dec ?_ ?_) <;> intro _)
    | ((with_reducible refine BIF.s ?_ ?_) <;> intro _)
    | (with_reducible refine NEXTK.normal ?_)
    | (with_reducible refine NEXTK.ret ?_)
    | (with_reducible refine NEXTK.exit ?_)
    | (with_reducible refine SEQ.plain ?_)
    | (with_reducible refine hK _ _ ?_)
    | ((with_reducible refine AR.ok ?_ ?_); exact ⟨by first | omega | (dsimp only; omega), by first | omega | (dsimp only; omega)⟩)
    | (with_reducible refine AR.wr ?_)
    | ((with_reducible intro w3 e3); try have z3 := cutLe e3)
    | ((with_reducible intro h3); have h4 := Nat.le_of_lt h3; clear h4)))
  all_goals
    intro hx
    refine ⟨?_, hx⟩
    simp_all [resV, atV]
theorem visitOf_c (a : Option Addr) (n c : Nat) (xs : List Vis) (r m : Int) (w : World) (hr : Row w a 4 (xs.map encVis)) (hn : xs.length = n) (hm : n ≤ 4611686018427387904) (hc : n ≤ c ∧ c < 9223372036854775808) (ho : areV xs = true) (h1 : inB r 1 999 = true) (h2 : inB m 480 1200 = true) :
    Calls Try.prog 37 #[.slice a n c, .int .i64 r, .int .i64 m] w fun e w' => e = .returned (.tuple #[.int .i64 (idxP (atV r m) xs), .bool (decide (0 ≤ idxP (atV r m) xs))]) ∧ E0 w w' := by
  refine enterK Non 27 Try.func37 rfl rfl rfl fun K hK => ?_
  repeat (any_goals (
    conv => whnf
    first
    | ((with_reducible refine RUN.mk (fun _ => rfl) ?_))
    | ((with_reducible refine callXB (g := 47) ?_ ?_); kernel_rfl; intro hX hbx; refine ⟨_, IndexFuncVis_c (atV r m) _ _ _ xs _ _ _ (hr.ext hX (mAddr_Non _)) hn hm (by kernel_rfl) (fun x hx w' e => visitOf1_c x r m _ _ _ (areV_ok ho x hx) ((Boxes.row hbx 0 _ _ _ rfl).e0 e) ((Boxes.row hbx 1 _ _ _ rfl).e0 e)), ?_⟩; intro w4 e4; have z4 := cutLe e4)
    | ((with_reducible refine callX (g := 11) ?_ ?_); kernel_rfl; intro hX; refine ⟨_, AreVisits_c _ _ _ xs _ (hr.ext hX (mAddr_Non _)) hn hm hc, ?_⟩; intro w4 e4; have z4 := cutLe e4)
    | ((with_reducible refine callF (g := 33) ?_ ?_); kernel_rfl; refine ⟨_, isId_c _ _, ?_⟩; intro w4 e4; have z4 := cutLe e4)
    | ((with_reducible refine callF (g := 36) ?_ ?_); kernel_rfl; refine ⟨_, isMinute_c _ _, ?_⟩; intro w4 e4; have z4 := cutLe e4)
    | ((exfalso; clear hK; simp_all <;> omega))
    | ((with_reducible refine BIF.dec ?_ ?_) <;> intro _)
    | ((with_reducible refine BIF.s ?_ ?_) <;> intro _)
    | (with_reducible refine NEXTK.normal ?_)
    | (with_reducible refine NEXTK.ret ?_)
    | (with_reducible refine NEXTK.exit ?_)
    | (with_reducible refine SEQ.plain ?_)
    | (with_reducible refine hK _ _ ?_)
    | ((with_reducible refine AR.ok ?_ ?_); exact ⟨by first | omega | (dsimp only; omega), by first | omega | (dsimp only; omega)⟩)
    | (with_reducible refine AR.wr ?_)
    | ((with_reducible intro w3 e3); try have z3 := cutLe e3)
    | ((with_reducible intro h3); have h4 := Nat.le_of_lt h3; clear h4)))
  all_goals
    intro hx
    refine ⟨?_, hx⟩
    simp_all [resV]
theorem l30At_c (a : Option Addr) (n c : Nat) (xs : List Vis) (r m : Int) (w : World) (hr : Row w a 4 (xs.map encVis)) (hn : xs.length = n) (hm : n ≤ 4611686018427387904) (ho : areV xs = true) :
    Calls Try.prog 35 #[.slice a n c, .int .i64 r, .int .i64 m] w fun e w' => e = .returned (.int .i64 (idxP (atV r m) xs)) ∧ E0 w w' := by
  refine enterK Non 37 Try.func35 rfl rfl rfl fun K hK => ?_
  conv => whnf
  repeat (first | ((with_reducible refine NEXTK.normal ?_); conv => whnf) | ((with_reducible refine NEXTK.exit ?_); conv => whnf) | ((with_reducible refine NEXTK.ret ?_); conv => whnf) | ((with_reducible refine SEQ.plain ?_); conv => whnf) | ((with_reducible refine AR.ok ?_ ?_); exact ⟨by omega, by omega⟩; conv => whnf))
  refine LOOP.mk Nat (fun k => [(7, .v (.int .i64 k))]) (fun k _ => k ≤ n ∧ ∀ j y, j < k → xs[j]? = some y → atV r m y = false) (fun k => n - k) 0 rfl ⟨rfl, trivial⟩ ⟨Nat.zero_le _, fun j y hj => by omega⟩ ?_
  rintro k wr - ⟨hk, hno⟩
  conv => whnf
  repeat (first | ((with_reducible refine NEXTK.normal ?_); conv => whnf) | ((with_reducible refine NEXTK.exit ?_); conv => whnf) | ((with_reducible refine NEXTK.ret ?_); conv => whnf) | ((with_reducible refine SEQ.plain ?_); conv => whnf) | ((with_reducible refine AR.ok ?_ ?_); exact ⟨by omega, by omega⟩; conv => whnf))
  refine BIF.dec (fun hlt => ?_) (fun hlt => ?_)
  · have hlt' : k < xs.length := by omega
    have his := hr.isSome (by simp; omega)
    obtain ⟨x, hx⟩ : ∃ x, xs[k]? = some x := ⟨xs[k]'(by omega), by simp⟩
    have hok := okV_spec (areV_at ho hx)
    repeat (any_goals (
      conv => whnf
      first
      | ((with_reducible refine OBL.mk ?_ (fun _ => ?_)); exact ⟨by omega, by omega, his⟩)
      | ((with_reducible refine ELD.at (k) hr ?_ ?_ ?_ (fun x' hx' => ?_)); exact mAddr_Non _; (first | rfl | omega); exact hlt'; obtain rfl : x = x' := by (rw [hx] at hx'; exact Option.some.inj hx'))
      | ((with_reducible refine DRAW.quiet ?_ ?_ ?_); kernel_rfl; kernel_rfl)
      | ((with_reducible refine callQ (g := 48) ?_ ?_); kernel_rfl; refine ⟨_, fun w' _ => l1In_c _ _ _ _, ?_⟩)
      | ((with_reducible refine BIF.beq ?_ ?_) <;> intro _)
      | ((with_reducible refine BIF.dec ?_ ?_) <;> intro _)
      | ((with_reducible refine BIF.s ?_ ?_) <;> intro _)
      | (with_reducible refine NEXTK.normal ?_)
      | (with_reducible refine NEXTK.ret ?_)
      | (with_reducible refine NEXTK.exit ?_)
      | (with_reducible refine SEQ.plain ?_)
      | (with_reducible refine hK _ _ ?_)
      | ((with_reducible refine AR.ok ?_ ?_); exact ⟨by first | omega | (dsimp only; omega), by first | omega | (dsimp only; omega)⟩)
      | (with_reducible refine AR.wr ?_)
      | ((with_reducible intro w3 e3); try have z3 := cutLe e3)
      | ((with_reducible intro h3); have h4 := Nat.le_of_lt h3; clear h4)))
    all_goals first
      | (intro hw
         refine ⟨?_, hw⟩
         rw [idxP_hit hx (by simp_all [atV]) hno]; rfl)
      | (refine ⟨k + 1, rfl, ⟨rfl, trivial⟩, rfl, rfl, ⟨by omega, fun j y hj hy => ?_⟩, by omega⟩
         rcases Nat.lt_or_ge j k with h | h
         · exact hno j y h hy
         · obtain rfl : j = k := by omega
           rw [hx] at hy; cases hy; simp_all [atV])
  · repeat (any_goals (
      conv => whnf
      first
      | ((with_reducible refine BIF.dec ?_ ?_) <;> intro _)
      | ((with_reducible refine BIF.s ?_ ?_) <;> intro _)
      | (with_reducible refine NEXTK.normal ?_)
      | (with_reducible refine NEXTK.ret ?_)
      | (with_reducible refine NEXTK.exit ?_)
      | (with_reducible refine SEQ.plain ?_)
      | (with_reducible refine hK _ _ ?_)
      | ((with_reducible refine AR.ok ?_ ?_); exact ⟨by first | omega | (dsimp only; omega), by first | omega | (dsimp only; omega)⟩)
      | (with_reducible refine AR.wr ?_)
      | ((with_reducible intro w3 e3); try have z3 := cutLe e3)
      | ((with_reducible intro h3); have h4 := Nat.le_of_lt h3; clear h4)))
    intro hw
    refine ⟨?_, hw⟩
    rw [idxP_none (fun j y hy => hno j y (by
      have := (List.getElem?_eq_some_iff.1 hy).1
      omega) hy)]; rfl
def seatOk (xs : List Vis) (r m : Int) : Bool := areV xs && inB r 1 999 && inB m 480 1200
def seatP (xs : List Vis) (r m : Int) : Int × Bool :=
  if seatOk xs r m then ((if 0 ≤ idxP (atV r m) xs then (xs.getD (idxP (atV r m) xs).toNat default).fSeat else 0), true) else (0, false)
theorem SeatOf_c (a : Option Addr) (n c : Nat) (xs : List Vis) (r m : Int) (w : World) (hr : Row w a 4 (xs.map encVis)) (hn : xs.length = n) (hm : n ≤ 4611686018427387904) (hc : n ≤ c ∧ c < 9223372036854775808) :
    Calls Try.prog 16 #[.slice a n c, .int .i64 r, .int .i64 m] w fun e w' => e = .returned (.tuple #[.int .i64 (seatP xs r m).1, .bool (seatP xs r m).2]) ∧ E0 w w' := by
  refine enterK Non 37 Try.func16 rfl rfl rfl fun K hK => ?_
  by_cases ho : areV xs = true ∧ inB r 1 999 = true ∧ inB m 480 1200 = true
  · have hok : seatOk xs r m = true := by simp [seatOk, ho]
    rcases idxP_spec (atV r m) xs with ⟨hi, hno⟩ | ⟨k, x, hi, hk, hx, hat, hno⟩
    · have hf : seatP xs r m = (0, true) := by simp [seatP, hok, hi]
      repeat (any_goals (
        conv => whnf
        first
        | ((with_reducible refine callF (g := 11) ?_ ?_); kernel_rfl; refine ⟨_, AreVisits_c _ _ _ xs _ (by repeat (first | assumption | refine Row.e0 ?_ (by assumption))) hn hm hc, ?_⟩; intro w4 e4; have z4 := cutLe e4)
        | ((with_reducible refine callF (g := 33) ?_ ?_); kernel_rfl; refine ⟨_, isId_c _ _, ?_⟩; intro w4 e4; have z4 := cutLe e4)
        | ((with_reducible refine callF (g := 36) ?_ ?_); kernel_rfl; refine ⟨_, isMinute_c _ _, ?_⟩; intro w4 e4; have z4 := cutLe e4)
        | ((exfalso; clear hK; simp_all <;> omega))
        | ((with_reducible refine callF (g := 37) ?_ ?_); kernel_rfl; refine ⟨_, visitOf_c _ _ _ xs _ _ _ (by repeat (first | assumption | refine Row.e0 ?_ (by assumption))) hn hm hc ho.1 ho.2.1 ho.2.2, ?_⟩; intro w4 e4; have z4 := cutLe e4)
        | ((with_reducible refine BIF.dec ?_ ?_) <;> intro _)
        | ((with_reducible refine BIF.s ?_ ?_) <;> intro _)
        | (with_reducible refine NEXTK.normal ?_)
        | (with_reducible refine NEXTK.ret ?_)
        | (with_reducible refine NEXTK.exit ?_)
        | (with_reducible refine SEQ.plain ?_)
        | (with_reducible refine hK _ _ ?_)
        | ((with_reducible refine AR.ok ?_ ?_); exact ⟨by first | omega | (dsimp only; omega), by first | omega | (dsimp only; omega)⟩)
        | (with_reducible refine AR.wr ?_)
        | ((with_reducible intro w3 e3); try have z3 := cutLe e3)
        | ((with_reducible intro h3); have h4 := Nat.le_of_lt h3; clear h4)))
      all_goals
        intro hx
        rw [hf]
        exact ⟨rfl, hx⟩
    · have hf : seatP xs r m = (x.fSeat, true) := by simp [seatP, hok, hi, hx]
      have his := hr.isSome (by simp; omega)
      repeat (any_goals (
        conv => whnf
        first
        | ((with_reducible refine callF (g := 11) ?_ ?_); kernel_rfl; refine ⟨_, AreVisits_c _ _ _ xs _ (by repeat (first | assumption | refine Row.e0 ?_ (by assumption))) hn hm hc, ?_⟩; intro w4 e4; have z4 := cutLe e4)
        | ((with_reducible refine callF (g := 33) ?_ ?_); kernel_rfl; refine ⟨_, isId_c _ _, ?_⟩; intro w4 e4; have z4 := cutLe e4)
        | ((with_reducible refine callF (g := 36) ?_ ?_); kernel_rfl; refine ⟨_, isMinute_c _ _, ?_⟩; intro w4 e4; have z4 := cutLe e4)
        | ((exfalso; clear hK; simp_all <;> omega))
        | ((with_reducible refine callF (g := 37) ?_ ?_); kernel_rfl; refine ⟨_, visitOf_c _ _ _ xs _ _ _ (by repeat (first | assumption | refine Row.e0 ?_ (by assumption))) hn hm hc ho.1 ho.2.1 ho.2.2, ?_⟩; intro w4 e4; have z4 := cutLe e4)
        | ((with_reducible refine OBL.mk ?_ (fun _ => ?_)); exact ⟨by omega, by omega, his⟩)
        | ((with_reducible refine ELD.at (k) hr ?_ ?_ ?_ (fun x' hx' => ?_)); exact mAddr_Non _; (first | rfl | omega); exact hk; obtain rfl : x = x' := by (rw [hx] at hx'; exact Option.some.inj hx'))
        | ((with_reducible refine BIF.dec ?_ ?_) <;> intro _)
        | ((with_reducible refine BIF.s ?_ ?_) <;> intro _)
        | (with_reducible refine NEXTK.normal ?_)
        | (with_reducible refine NEXTK.ret ?_)
        | (with_reducible refine NEXTK.exit ?_)
        | (with_reducible refine SEQ.plain ?_)
        | (with_reducible refine hK _ _ ?_)
        | ((with_reducible refine AR.ok ?_ ?_); exact ⟨by first | omega | (dsimp only; omega), by first | omega | (dsimp only; omega)⟩)
        | (with_reducible refine AR.wr ?_)
        | ((with_reducible intro w3 e3); try have z3 := cutLe e3)
        | ((with_reducible intro h3); have h4 := Nat.le_of_lt h3; clear h4)))
      all_goals
        intro hx
        rw [hf]
        exact ⟨rfl, hx⟩
  · have hok : seatOk xs r m = false := by
      cases h : seatOk xs r m with
      | false => rfl
      | true => exact absurd (by simpa [seatOk, and_assoc] using h) ho
    have hf : seatP xs r m = (0, false) := by simp [seatP, hok]
    repeat (any_goals (
      conv => whnf
      first
      | ((with_reducible refine callF (g := 11) ?_ ?_); kernel_rfl; refine ⟨_, AreVisits_c _ _ _ xs _ (by repeat (first | assumption | refine Row.e0 ?_ (by assumption))) hn hm hc, ?_⟩; intro w4 e4; have z4 := cutLe e4)
      | ((with_reducible refine callF (g := 33) ?_ ?_); kernel_rfl; refine ⟨_, isId_c _ _, ?_⟩; intro w4 e4; have z4 := cutLe e4)
      | ((with_reducible refine callF (g := 36) ?_ ?_); kernel_rfl; refine ⟨_, isMinute_c _ _, ?_⟩; intro w4 e4; have z4 := cutLe e4)
      | ((exfalso; clear hK; simp_all <;> omega))
      | ((with_reducible refine BIF.dec ?_ ?_) <;> intro _)
      | ((with_reducible refine BIF.s ?_ ?_) <;> intro _)
      | (with_reducible refine NEXTK.normal ?_)
      | (with_reducible refine NEXTK.ret ?_)
      | (with_reducible refine NEXTK.exit ?_)
      | (with_reducible refine SEQ.plain ?_)
      | (with_reducible refine hK _ _ ?_)
      | ((with_reducible refine AR.ok ?_ ?_); exact ⟨by first | omega | (dsimp only; omega), by first | omega | (dsimp only; omega)⟩)
      | (with_reducible refine AR.wr ?_)
      | ((with_reducible intro w3 e3); try have z3 := cutLe e3)
      | ((with_reducible intro h3); have h4 := Nat.le_of_lt h3; clear h4)))
    all_goals
      intro hx
      rw [hf]
      exact ⟨rfl, hx⟩
theorem SeatOfS_c (a : Option Addr) (n c : Nat) (xs : List Vis) (r m : Int) (w : World) (hr : Row w a 4 (xs.map encVis)) (hn : xs.length = n) (hm : n ≤ 4611686018427387904) :
    Calls Try.prog 15 #[.slice a n c, .int .i64 r, .int .i64 m] w fun e w' => e = .returned (.tuple #[.int .i64 (seatP xs r m).1, .bool (seatP xs r m).2]) ∧ E0 w w' := by
  refine enterK Non 33 Try.func15 rfl rfl rfl fun K hK => ?_
  by_cases ho : areV xs = true ∧ inB r 1 999 = true ∧ inB m 480 1200 = true
  · have hok : seatOk xs r m = true := by simp [seatOk, ho]
    rcases idxP_spec (atV r m) xs with ⟨hi, hno⟩ | ⟨k, x, hi, hk, hx, hat, hno⟩
    · have hf : seatP xs r m = (0, true) := by simp [seatP, hok, hi]
      repeat (any_goals (
        conv => whnf
        first
        | ((with_reducible refine callF (g := 25) ?_ ?_); kernel_rfl; refine ⟨_, l30Good_c _ _ _ xs _ (by repeat (first | assumption | refine Row.e0 ?_ (by assumption))) hn hm, ?_⟩; intro w4 e4; have z4 := cutLe e4)
        | ((with_reducible refine callF (g := 32) ?_ ?_); kernel_rfl; refine ⟨_, l30Reader_c _ _, ?_⟩; intro w4 e4; have z4 := cutLe e4)
        | ((with_reducible refine callF (g := 34) ?_ ?_); kernel_rfl; refine ⟨_, l30Minute_c _ _, ?_⟩; intro w4 e4; have z4 := cutLe e4)
        | ((exfalso; clear hK; simp_all <;> omega))
        | ((with_reducible refine callF (g := 35) ?_ ?_); kernel_rfl; refine ⟨_, l30At_c _ _ _ xs _ _ _ (by repeat (first | assumption | refine Row.e0 ?_ (by assumption))) hn hm ho.1, ?_⟩; intro w4 e4; have z4 := cutLe e4)
        | ((with_reducible refine BIF.dec ?_ ?_) <;> intro _)
        | ((with_reducible refine BIF.s ?_ ?_) <;> intro _)
        | (with_reducible refine NEXTK.normal ?_)
        | (with_reducible refine NEXTK.ret ?_)
        | (with_reducible refine NEXTK.exit ?_)
        | (with_reducible refine SEQ.plain ?_)
        | (with_reducible refine hK _ _ ?_)
        | ((with_reducible refine AR.ok ?_ ?_); exact ⟨by first | omega | (dsimp only; omega), by first | omega | (dsimp only; omega)⟩)
        | (with_reducible refine AR.wr ?_)
        | ((with_reducible intro w3 e3); try have z3 := cutLe e3)
        | ((with_reducible intro h3); have h4 := Nat.le_of_lt h3; clear h4)))
      all_goals first
        | (exfalso; omega)
        | (intro hx
           rw [hf]
           exact ⟨rfl, hx⟩)
    · have hf : seatP xs r m = (x.fSeat, true) := by simp [seatP, hok, hi, hx]
      have his := hr.isSome (by simp; omega)
      repeat (any_goals (
        conv => whnf
        first
        | ((with_reducible refine callF (g := 25) ?_ ?_); kernel_rfl; refine ⟨_, l30Good_c _ _ _ xs _ (by repeat (first | assumption | refine Row.e0 ?_ (by assumption))) hn hm, ?_⟩; intro w4 e4; have z4 := cutLe e4)
        | ((with_reducible refine callF (g := 32) ?_ ?_); kernel_rfl; refine ⟨_, l30Reader_c _ _, ?_⟩; intro w4 e4; have z4 := cutLe e4)
        | ((with_reducible refine callF (g := 34) ?_ ?_); kernel_rfl; refine ⟨_, l30Minute_c _ _, ?_⟩; intro w4 e4; have z4 := cutLe e4)
        | ((exfalso; clear hK; simp_all <;> omega))
        | ((with_reducible refine callF (g := 35) ?_ ?_); kernel_rfl; refine ⟨_, l30At_c _ _ _ xs _ _ _ (by repeat (first | assumption | refine Row.e0 ?_ (by assumption))) hn hm ho.1, ?_⟩; intro w4 e4; have z4 := cutLe e4)
        | ((exfalso; omega))
        | ((with_reducible refine OBL.mk ?_ (fun _ => ?_)); exact ⟨by omega, by omega, his⟩)
        | ((with_reducible refine ELD.at (k) hr ?_ ?_ ?_ (fun x' hx' => ?_)); exact mAddr_Non _; (first | rfl | omega); exact hk; obtain rfl : x = x' := by (rw [hx] at hx'; exact Option.some.inj hx'))
        | ((with_reducible refine BIF.dec ?_ ?_) <;> intro _)
        | ((with_reducible refine BIF.s ?_ ?_) <;> intro _)
        | (with_reducible refine NEXTK.normal ?_)
        | (with_reducible refine NEXTK.ret ?_)
        | (with_reducible refine NEXTK.exit ?_)
        | (with_reducible refine SEQ.plain ?_)
        | (with_reducible refine hK _ _ ?_)
        | ((with_reducible refine AR.ok ?_ ?_); exact ⟨by first | omega | (dsimp only; omega), by first | omega | (dsimp only; omega)⟩)
        | (with_reducible refine AR.wr ?_)
        | ((with_reducible intro w3 e3); try have z3 := cutLe e3)
        | ((with_reducible intro h3); have h4 := Nat.le_of_lt h3; clear h4)))
      all_goals
        intro hx
        rw [hf]
        exact ⟨rfl, hx⟩
  · have hok : seatOk xs r m = false := by
      cases h : seatOk xs r m with
      | false => rfl
      | true => exact absurd (by simpa [seatOk, and_assoc] using h) ho
    have hf : seatP xs r m = (0, false) := by simp [seatP, hok]
    repeat (any_goals (
      conv => whnf
      first
      | ((with_reducible refine callF (g := 25) ?_ ?_); kernel_rfl; refine ⟨_, l30Good_c _ _ _ xs _ (by repeat (first | assumption | refine Row.e0 ?_ (by assumption))) hn hm, ?_⟩; intro w4 e4; have z4 := cutLe e4)
      | ((with_reducible refine callF (g := 32) ?_ ?_); kernel_rfl; refine ⟨_, l30Reader_c _ _, ?_⟩; intro w4 e4; have z4 := cutLe e4)
      | ((with_reducible refine callF (g := 34) ?_ ?_); kernel_rfl; refine ⟨_, l30Minute_c _ _, ?_⟩; intro w4 e4; have z4 := cutLe e4)
      | ((exfalso; clear hK; simp_all <;> omega))
      | ((with_reducible refine BIF.dec ?_ ?_) <;> intro _)
      | ((with_reducible refine BIF.s ?_ ?_) <;> intro _)
      | (with_reducible refine NEXTK.normal ?_)
      | (with_reducible refine NEXTK.ret ?_)
      | (with_reducible refine NEXTK.exit ?_)
      | (with_reducible refine SEQ.plain ?_)
      | (with_reducible refine hK _ _ ?_)
      | ((with_reducible refine AR.ok ?_ ?_); exact ⟨by first | omega | (dsimp only; omega), by first | omega | (dsimp only; omega)⟩)
      | (with_reducible refine AR.wr ?_)
      | ((with_reducible intro w3 e3); try have z3 := cutLe e3)
      | ((with_reducible intro h3); have h4 := Nat.le_of_lt h3; clear h4)))
    all_goals
      intro hx
      rw [hf]
      exact ⟨rfl, hx⟩

end Go.Proofs.Ytlakfbbnhedcoaa

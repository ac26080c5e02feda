/- The small functions and the conversions of the copies of the order lists do what they say. -/
import Derived.Test.YtjcpcnljhgfafaaRows
import Derived.Test.YtjcpcnljhgfafaaOpen
namespace Go.Proofs.Ytjcpcnljhgfafaa
open Go Go.X Go.Proofs Go.ChangeShapes Go.WideShapes Go.ChangeAt Go.RowKit
open Go.ChangeMaps (open_string shut_string)
set_option maxHeartbeats 1000000
set_option maxRecDepth 20000
set_option linter.unusedVariables false
set_option linter.unusedSimpArgs false
def inB (n a b : Int) : Bool := decide (a ≤ n) && decide (n ≤ b)
theorem inB_iff {n a b : Int} : inB n a b = true ↔ a ≤ n ∧ n ≤ b := by simp [inB]
theorem within_c (n a b : Int) (w : World) : Calls Try.prog 85 #[.int .i64 n, .int .i64 a, .int .i64 b] w fun e w' => e = .returned (.bool (inB n a b)) ∧ E0 w w' := by
  refine enterK Non 15 Try.func85 rfl rfl rfl fun K hK => ?_
  repeat (any_goals (
    conv => whnf
    first
    | ((with_reducible refine BIF.dec ?_ ?_) <;> intro _)
    | ((with_reducible refine BIF.s ?_ ?_) <;> intro _)
    | (with_reducible refine NEXTK.normal ?_)
    | (with_reducible refine NEXTK.ret ?_)
    | (with_reducible refine NEXTK.exit ?_)
    | (with_reducible refine SEQ.plain ?_)
    | (with_reducible refine hK _ _ ?_)
    | ((with_reducible refine AR.ok ?_ ?_); exact ⟨by first | omega | (dsimp only; omega), by first | omega | (dsimp only; omega)⟩)
    | (with_reducible refine AR.wr ?_)
    | ((with_reducible intro w3 e3); try have z3 := cutLe e3)
    | ((with_reducible intro h3); have h4 := Nat.le_of_lt h3; clear h4)))
  all_goals
    intro hx
    refine ⟨?_, hx⟩
    simp_all [inB, resV] <;> omega
theorem l1In_c (n a b : Int) (w : World) : Calls Try.prog 75 #[.int .i64 n, .int .i64 a, .int .i64 b] w fun e w' => e = .returned (.bool (inB n a b)) ∧ E0 w w' := by
  refine enterK Non 15 Try.func75 rfl rfl rfl fun K hK => ?_
  repeat (any_goals (
    conv => whnf
    first
    | ((with_reducible refine BIF.dec ?_ ?_) <;> intro _)
    | ((with_reducible refine BIF.s ?_ ?_) <;> intro _)
    | (with_reducible refine NEXTK.normal ?_)
    | (with_reducible refine NEXTK.ret ?_)
    | (with_reducible refine NEXTK.exit ?_)
    | (with_reducible refine SEQ.plain ?_)
    | (with_reducible refine hK _ _ ?_)
    | ((with_reducible refine AR.ok ?_ ?_); exact ⟨by first | omega | (dsimp only; omega), by first | omega | (dsimp only; omega)⟩)
    | (with_reducible refine AR.wr ?_)
    | ((with_reducible intro w3 e3); try have z3 := cutLe e3)
    | ((with_reducible intro h3); have h4 := Nat.le_of_lt h3; clear h4)))
  all_goals
    intro hx
    refine ⟨?_, hx⟩
    simp_all [inB, resV] <;> omega
theorem isDay_c (n : Int) (w : World) : Calls Try.prog 72 #[.int .i64 n] w fun e w' => e = .returned (.bool (inB n 0 4000)) ∧ E0 w w' := by
  refine enterK Non 5 Try.func72 rfl rfl rfl fun K hK => ?_
  repeat (any_goals (
    conv => whnf
    first
    | ((with_reducible refine callF (g := 85) ?_ ?_); kernel_rfl; refine ⟨_, within_c _ _ _ _, ?_⟩; intro w4 e4; have z4 := cutLe e4)
    | ((with_reducible refine BIF.dec ?_ ?_) <;> intro _)
    | ((with_reducible refine BIF.s ?_ ?_) <;> intro _)
    | (with_reducible refine NEXTK.normal ?_)
    | (with_reducible refine NEXTK.ret ?_)
    | (with_reducible refine NEXTK.exit ?_)
    | (with_reducible refine SEQ.plain ?_)
    | (with_reducible refine hK _ _ ?_)
    | ((with_reducible refine AR.ok ?_ ?_); exact ⟨by first | omega | (dsimp only; omega), by first | omega | (dsimp only; omega)⟩)
    | (with_reducible refine AR.wr ?_)
    | ((with_reducible intro w3 e3); try have z3 := cutLe e3)
    | ((with_reducible intro h3); have h4 := Nat.le_of_lt h3; clear h4)))
  intro hx
  exact ⟨rfl, hx⟩
theorem isId_c (n : Int) (w : World) : Calls Try.prog 76 #[.int .i64 n] w fun e w' => e = .returned (.bool (inB n 1 999)) ∧ E0 w w' := by
  refine enterK Non 5 Try.func76 rfl rfl rfl fun K hK => ?_
  repeat (any_goals (
    conv => whnf
    first
    | ((with_reducible refine callF (g := 85) ?_ ?_); kernel_rfl; refine ⟨_, within_c _ _ _ _, ?_⟩; intro w4 e4; have z4 := cutLe e4)
    | ((with_reducible refine BIF.dec ?_ ?_) <;> intro _)
    | ((with_reducible refine BIF.s ?_ ?_) <;> intro _)
    | (with_reducible refine NEXTK.normal ?_)
    | (with_reducible refine NEXTK.ret ?_)
    | (with_reducible refine NEXTK.exit ?_)
    | (with_reducible refine SEQ.plain ?_)
    | (with_reducible refine hK _ _ ?_)
    | ((with_reducible refine AR.ok ?_ ?_); exact ⟨by first | omega | (dsimp only; omega), by first | omega | (dsimp only; omega)⟩)
    | (with_reducible refine AR.wr ?_)
    | ((with_reducible intro w3 e3); try have z3 := cutLe e3)
    | ((with_reducible intro h3); have h4 := Nat.le_of_lt h3; clear h4)))
  intro hx
  exact ⟨rfl, hx⟩
theorem l2Day_c (n : Int) (w : World) : Calls Try.prog 64 #[.int .i64 n] w fun e w' => e = .returned (.bool (inB n 0 4000)) ∧ E0 w w' := by
  refine enterK Non 5 Try.func64 rfl rfl rfl fun K hK => ?_
  repeat (any_goals (
    conv => whnf
    first
    | ((with_reducible refine callF (g := 75) ?_ ?_); kernel_rfl; refine ⟨_, l1In_c _ _ _ _, ?_⟩; intro w4 e4; have z4 := cutLe e4)
    | ((with_reducible refine BIF.dec ?_ ?_) <;> intro _)
    | ((with_reducible refine BIF.s ?_ ?_) <;> intro _)
    | (with_reducible refine NEXTK.normal ?_)
    | (with_reducible refine NEXTK.ret ?_)
    | (with_reducible refine NEXTK.exit ?_)
    | (with_reducible refine SEQ.plain ?_)
    | (with_reducible refine hK _ _ ?_)
    | ((with_reducible refine AR.ok ?_ ?_); exact ⟨by first | omega | (dsimp only; omega), by first | omega | (dsimp only; omega)⟩)
    | (with_reducible refine AR.wr ?_)
    | ((with_reducible intro w3 e3); try have z3 := cutLe e3)
    | ((with_reducible intro h3); have h4 := Nat.le_of_lt h3; clear h4)))
  all_goals
    intro hx
    refine ⟨?_, hx⟩
    simp_all [inB, resV] <;> omega
theorem l1Least_c (a b : Int) (w : World) : Calls Try.prog 86 #[.int .i64 a, .int .i64 b] w fun e w' => e = .returned (.int .i64 (min a b)) ∧ E0 w w' := by
  refine enterK Non 10 Try.func86 rfl rfl rfl fun K hK => ?_
  repeat (any_goals (
    conv => whnf
    first
    | ((with_reducible refine BIF.dec ?_ ?_) <;> intro _)
    | ((with_reducible refine BIF.s ?_ ?_) <;> intro _)
    | (with_reducible refine NEXTK.normal ?_)
    | (with_reducible refine NEXTK.ret ?_)
    | (with_reducible refine NEXTK.exit ?_)
    | (with_reducible refine SEQ.plain ?_)
    | (with_reducible refine hK _ _ ?_)
    | ((with_reducible refine AR.ok ?_ ?_); exact ⟨by first | omega | (dsimp only; omega), by first | omega | (dsimp only; omega)⟩)
    | (with_reducible refine AR.wr ?_)
    | ((with_reducible intro w3 e3); try have z3 := cutLe e3)
    | ((with_reducible intro h3); have h4 := Nat.le_of_lt h3; clear h4)))
  all_goals
    intro hx
    refine ⟨?_, hx⟩
    simp only [resV]
    congr 2
    omega
theorem l1Most_c (a b : Int) (w : World) : Calls Try.prog 65 #[.int .i64 a, .int .i64 b] w fun e w' => e = .returned (.int .i64 (max a b)) ∧ E0 w w' := by
  refine enterK Non 10 Try.func65 rfl rfl rfl fun K hK => ?_
  repeat (any_goals (
    conv => whnf
    first
    | ((with_reducible refine BIF.dec ?_ ?_) <;> intro _)
    | ((with_reducible refine BIF.s ?_ ?_) <;> intro _)
    | (with_reducible refine NEXTK.normal ?_)
    | (with_reducible refine NEXTK.ret ?_)
    | (with_reducible refine NEXTK.exit ?_)
    | (with_reducible refine SEQ.plain ?_)
    | (with_reducible refine hK _ _ ?_)
    | ((with_reducible refine AR.ok ?_ ?_); exact ⟨by first | omega | (dsimp only; omega), by first | omega | (dsimp only; omega)⟩)
    | (with_reducible refine AR.wr ?_)
    | ((with_reducible intro w3 e3); try have z3 := cutLe e3)
    | ((with_reducible intro h3); have h4 := Nat.le_of_lt h3; clear h4)))
  all_goals
    intro hx
    refine ⟨?_, hx⟩
    simp only [resV]
    congr 2
    omega
theorem areDays_c (a b : Int) (w : World) : Calls Try.prog 67 #[.int .i64 a, .int .i64 b] w fun e w' => e = .returned (.bool (inB a 0 4000 && inB b 0 4000 && decide (a ≤ b))) ∧ E0 w w' := by
  refine enterK Non 16 Try.func67 rfl rfl rfl fun K hK => ?_
  repeat (any_goals (
    conv => whnf
    first
    | ((with_reducible refine callF (g := 72) ?_ ?_); kernel_rfl; refine ⟨_, isDay_c _ _, ?_⟩; intro w4 e4; have z4 := cutLe e4)
    | ((with_reducible refine BIF.dec ?_ ?_) <;> intro _)
    | ((with_reducible refine BIF.s ?_ ?_) <;> intro _)
    | (with_reducible refine NEXTK.normal ?_)
    | (with_reducible refine NEXTK.ret ?_)
    | (with_reducible refine NEXTK.exit ?_)
    | (with_reducible refine SEQ.plain ?_)
    | (with_reducible refine hK _ _ ?_)
    | ((with_reducible refine AR.ok ?_ ?_); exact ⟨by first | omega | (dsimp only; omega), by first | omega | (dsimp only; omega)⟩)
    | (with_reducible refine AR.wr ?_)
    | ((with_reducible intro w3 e3); try have z3 := cutLe e3)
    | ((with_reducible intro h3); have h4 := Nat.le_of_lt h3; clear h4)))
  all_goals
    intro hx
    refine ⟨?_, hx⟩
    simp_all [resV]
theorem isRate_c (n : Int) (w : World) : Calls Try.prog 68 #[.int .i64 n] w fun e w' => e = .returned (.bool (inB n 1 100)) ∧ E0 w w' := by
  refine enterK Non 5 Try.func68 rfl rfl rfl fun K hK => ?_
  repeat (any_goals (
    conv => whnf
    first
    | ((with_reducible refine callF (g := 85) ?_ ?_); kernel_rfl; refine ⟨_, within_c _ _ _ _, ?_⟩; intro w4 e4; have z4 := cutLe e4)
    | ((with_reducible refine BIF.dec ?_ ?_) <;> intro _)
    | ((with_reducible refine BIF.s ?_ ?_) <;> intro _)
    | (with_reducible refine NEXTK.normal ?_)
    | (with_reducible refine NEXTK.ret ?_)
    | (with_reducible refine NEXTK.exit ?_)
    | (with_reducible refine SEQ.plain ?_)
    | (with_reducible refine hK _ _ ?_)
    | ((with_reducible refine AR.ok ?_ ?_); exact ⟨by first | omega | (dsimp only; omega), by first | omega | (dsimp only; omega)⟩)
    | (with_reducible refine AR.wr ?_)
    | ((with_reducible intro w3 e3); try have z3 := cutLe e3)
    | ((with_reducible intro h3); have h4 := Nat.le_of_lt h3; clear h4)))
  intro hx
  exact ⟨rfl, hx⟩
theorem l28Rate_c (n : Int) (w : World) : Calls Try.prog 66 #[.int .i64 n] w fun e w' => e = .returned (.bool (inB n 1 100)) ∧ E0 w w' := by
  refine enterK Non 5 Try.func66 rfl rfl rfl fun K hK => ?_
  repeat (any_goals (
    conv => whnf
    first
    | ((with_reducible refine callF (g := 75) ?_ ?_); kernel_rfl; refine ⟨_, l1In_c _ _ _ _, ?_⟩; intro w4 e4; have z4 := cutLe e4)
    | ((with_reducible refine BIF.dec ?_ ?_) <;> intro _)
    | ((with_reducible refine BIF.s ?_ ?_) <;> intro _)
    | (with_reducible refine NEXTK.normal ?_)
    | (with_reducible refine NEXTK.ret ?_)
    | (with_reducible refine NEXTK.exit ?_)
    | (with_reducible refine SEQ.plain ?_)
    | (with_reducible refine hK _ _ ?_)
    | ((with_reducible refine AR.ok ?_ ?_); exact ⟨by first | omega | (dsimp only; omega), by first | omega | (dsimp only; omega)⟩)
    | (with_reducible refine AR.wr ?_)
    | ((with_reducible intro w3 e3); try have z3 := cutLe e3)
    | ((with_reducible intro h3); have h4 := Nat.le_of_lt h3; clear h4)))
  intro hx
  exact ⟨rfl, hx⟩
structure Ord where
  fId : Int
  fReader : Int
  fPages : Int
  fPlaced : Int
  fReady : Int
  deriving DecidableEq
def encOrd (x : Ord) : List Value := [.int .i64 x.fId, .int .i64 x.fReader, .int .i64 x.fPages, .int .i64 x.fPlaced, .int .i64 x.fReady]
def zeroOrd : List Value := [.int .i64 0, .int .i64 0, .int .i64 0, .int .i64 0, .int .i64 0]
theorem encOrd_len (x : Ord) : (encOrd x).length = 5 := rfl
theorem encOrd_one (x : Ord) : allOne (encOrd x) = true := rfl
theorem elemOrd : ElemT Try.prog 25 62 5 40 zeroOrd := ElemT.mk' (by kernel_rfl) (by kernel_rfl)
theorem toOrd_c (x : Ord) (w : World) : Calls Try.prog 54 #[.agg (encOrd x).toArray] w fun e w' => e = .returned (.agg (encOrd x).toArray) ∧ E0 w w' := by
  refine enterK Non 20 Try.func54 rfl rfl rfl fun K hK => ?_
  repeat (any_goals (
    conv => whnf
    first
    | ((with_reducible refine BIF.dec ?_ ?_) <;> intro _)
    | ((with_reducible refine BIF.s ?_ ?_) <;> intro _)
    | (with_reducible refine NEXTK.normal ?_)
    | (with_reducible refine NEXTK.ret ?_)
    | (with_reducible refine NEXTK.exit ?_)
    | (with_reducible refine SEQ.plain ?_)
    | (with_reducible refine hK _ _ ?_)
    | ((with_reducible refine AR.ok ?_ ?_); exact ⟨by first | omega | (dsimp only; omega), by first | omega | (dsimp only; omega)⟩)
    | (with_reducible refine AR.wr ?_)
    | ((with_reducible intro w3 e3); try have z3 := cutLe e3)
    | ((with_reducible intro h3); have h4 := Nat.le_of_lt h3; clear h4)))
  all_goals
    intro hx
    exact ⟨rfl, hx⟩
theorem szOrdS_c (a : Option Addr) (n c : Nat) (l : Int) (w : World) (hn : (n : Int) ≤ 9223372036854775807) (hl : 0 ≤ l ∧ l ≤ 1048576) :
    Calls Try.prog 15 #[.slice a n c, .int .i64 l] w fun e w' => e = .returned (.int .i64 (if (n : Int) ≤ l then l - n else -1)) ∧ E0 w w' := by
  refine enterK Non 12 Try.func15 rfl rfl rfl fun K hK => ?_
  repeat (any_goals (
    conv => whnf
    first
    | ((with_reducible refine BIF.dec ?_ ?_) <;> intro _)
    | ((with_reducible refine BIF.s ?_ ?_) <;> intro _)
    | (with_reducible refine NEXTK.normal ?_)
    | (with_reducible refine NEXTK.ret ?_)
    | (with_reducible refine NEXTK.exit ?_)
    | (with_reducible refine SEQ.plain ?_)
    | (with_reducible refine hK _ _ ?_)
    | ((with_reducible refine AR.ok ?_ ?_); exact ⟨by first | omega | (dsimp only; omega), by first | omega | (dsimp only; omega)⟩)
    | (with_reducible refine AR.wr ?_)
    | ((with_reducible intro w3 e3); try have z3 := cutLe e3)
    | ((with_reducible intro h3); have h4 := Nat.le_of_lt h3; clear h4)))
  all_goals
    intro hx
    refine ⟨?_, hx⟩
    simp only [resV]
    first
    | rw [if_pos (by omega)]
    | rw [if_neg (by omega)]
theorem szOrdS_ok (a : Option Addr) (n c : Nat) (l : Int) (w : World) (h : (n : Int) ≤ l ∧ 0 ≤ l ∧ l ≤ 1048576) :
    Calls Try.prog 15 #[.slice a n c, .int .i64 l] w fun e w' => e = .returned (.int .i64 (l - n)) ∧ E0 w w' := by
  have := szOrdS_c a n c l w (by omega) (by omega)
  rwa [if_pos (by omega)] at this
theorem szOrdS_no (a : Option Addr) (n c : Nat) (l : Int) (w : World) (h : l < (n : Int) ∧ 0 ≤ l ∧ l ≤ 1048576 ∧ (n : Int) ≤ 9223372036854775807) :
    Calls Try.prog 15 #[.slice a n c, .int .i64 l] w fun e w' => e = .returned (.int .i64 (-1)) ∧ E0 w w' := by
  have := szOrdS_c a n c l w (by omega) (by omega)
  rwa [if_neg (by omega)] at this
theorem toOrdS_c (a : Option Addr) (n c : Nat) (xs : List Ord) (w : World) (hr : Row w a 5 (xs.map encOrd)) (hn : xs.length = n) (hm : n ≤ 1048576) :
    Calls Try.prog 17 #[.slice a n c] w fun e w' => ∃ v, e = .returned v ∧ E0 w w' ∧ Own w' w.heap.size 62 5 v (xs.map encOrd) := by
  refine enterK Non 23 Try.func17 rfl rfl rfl fun K hK => ?_
  conv => whnf
  repeat (first | ((with_reducible refine NEXTK.normal ?_); conv => whnf) | ((with_reducible refine NEXTK.exit ?_); conv => whnf) | ((with_reducible refine NEXTK.ret ?_); conv => whnf) | ((with_reducible refine SEQ.plain ?_); conv => whnf) | ((with_reducible refine AR.ok ?_ ?_); exact ⟨by omega, by omega⟩; conv => whnf))
  refine mkS (n := n) (by exact elemOrd) (by omega) (fun w1 cp e1 o1 => ?_)
  conv => whnf
  repeat (first | ((with_reducible refine NEXTK.normal ?_); conv => whnf) | ((with_reducible refine NEXTK.exit ?_); conv => whnf) | ((with_reducible refine NEXTK.ret ?_); conv => whnf) | ((with_reducible refine SEQ.plain ?_); conv => whnf) | ((with_reducible refine AR.ok ?_ ?_); exact ⟨by omega, by omega⟩; conv => whnf))
  refine LOOP.mk Nat (fun k => [(4, .v (.int .i64 k))]) (fun k wr => k ≤ n ∧ Own wr w.heap.size 62 5 (.slice (some ⟨w.heap.size, 0, none⟩) n cp) ((xs.take k).map encOrd ++ List.replicate (xs.length - k) zeroOrd)) (fun k => n - k) 0 rfl ⟨rfl, trivial⟩ ⟨Nat.zero_le _, by simpa [hn] using o1⟩ ?_
  rintro k wr - ⟨hk, ho⟩
  conv => whnf
  repeat (first | ((with_reducible refine NEXTK.normal ?_); conv => whnf) | ((with_reducible refine NEXTK.exit ?_); conv => whnf) | ((with_reducible refine NEXTK.ret ?_); conv => whnf) | ((with_reducible refine SEQ.plain ?_); conv => whnf) | ((with_reducible refine AR.ok ?_ ?_); exact ⟨by omega, by omega⟩; conv => whnf))
  refine BIF.dec (fun hlt => ?_) (fun hlt => ?_)
  · have hlt' : k < xs.length := by omega
    have hs := hr.isSome (by simp; omega)
    repeat (any_goals (
      conv => whnf
      first
      | ((with_reducible refine OBL.mk ?_ (fun _ => ?_)); exact ⟨by omega, by omega, by first | exact hs | rfl⟩)
      | ((with_reducible refine ELD.at k hr ?_ ?_ ?_ (fun x hx => ?_)); exact mAddr_Non _; rfl; exact hlt')
      | ((with_reducible refine callF (g := 54) ?_ ?_); kernel_rfl; refine ⟨_, toOrd_c _ _, ?_⟩; intro w4 e4; replace ho := ho.e0 e4)
      | ((with_reducible refine BIF.dec ?_ ?_) <;> intro _)
      | ((with_reducible refine BIF.s ?_ ?_) <;> intro _)
      | (with_reducible refine NEXTK.normal ?_)
      | (with_reducible refine NEXTK.ret ?_)
      | (with_reducible refine NEXTK.exit ?_)
      | (with_reducible refine SEQ.plain ?_)
      | (with_reducible refine hK _ _ ?_)
      | ((with_reducible refine AR.ok ?_ ?_); exact ⟨by first | omega | (dsimp only; omega), by first | omega | (dsimp only; omega)⟩)
      | (with_reducible refine AR.wr ?_)
      | ((with_reducible intro w3 e3); try have z3 := cutLe e3)
      | ((with_reducible intro h3); have h4 := Nat.le_of_lt h3; clear h4)))
    refine stS (i := k) ho rfl rfl rfl k rfl (fill_get hlt') (by decide) (Nat.le_refl _) trivial (fun w5 e5 ho5 => ?_)
    replace ho5 := fill_own ho5 hx rfl rfl
    conv => whnf
    repeat (first | ((with_reducible refine NEXTK.normal ?_); conv => whnf) | ((with_reducible refine NEXTK.exit ?_); conv => whnf) | ((with_reducible refine NEXTK.ret ?_); conv => whnf) | ((with_reducible refine SEQ.plain ?_); conv => whnf) | ((with_reducible refine AR.ok ?_ ?_); exact ⟨by omega, by omega⟩; conv => whnf))
    exact ⟨k + 1, rfl, ⟨rfl, trivial⟩, rfl, rfl, ⟨by omega, ho5⟩, by omega⟩
  · have hkn : k = xs.length := by omega
    conv => whnf
    repeat (first | ((with_reducible refine NEXTK.normal ?_); conv => whnf) | ((with_reducible refine NEXTK.exit ?_); conv => whnf) | ((with_reducible refine NEXTK.ret ?_); conv => whnf) | ((with_reducible refine SEQ.plain ?_); conv => whnf) | ((with_reducible refine AR.ok ?_ ?_); exact ⟨by omega, by omega⟩; conv => whnf))
    refine hK _ _ ?_
    conv => whnf
    intro hx
    subst hkn
    rw [fill_all] at ho
    exact ⟨_, rfl, hx, ho⟩
theorem eqOrd_c (x y : Ord) (w : World) : Calls Try.prog 56 #[.agg (encOrd x).toArray, .agg (encOrd y).toArray] w fun e w' => e = .returned (.bool (decide (x = y))) ∧ E0 w w' := by
  refine enterK Non 30 Try.func56 rfl rfl rfl fun K hK => ?_
  repeat (any_goals (
    conv => whnf
    first
    | ((with_reducible refine BIF.dec ?_ ?_) <;> intro _)
    | ((with_reducible refine BIF.s ?_ ?_) <;> intro _)
    | (with_reducible refine NEXTK.normal ?_)
    | (with_reducible refine NEXTK.ret ?_)
    | (with_reducible refine NEXTK.exit ?_)
    | (with_reducible refine SEQ.plain ?_)
    | (with_reducible refine hK _ _ ?_)
    | ((with_reducible refine AR.ok ?_ ?_); exact ⟨by first | omega | (dsimp only; omega), by first | omega | (dsimp only; omega)⟩)
    | (with_reducible refine AR.wr ?_)
    | ((with_reducible intro w3 e3); try have z3 := cutLe e3)
    | ((with_reducible intro h3); have h4 := Nat.le_of_lt h3; clear h4)))
  all_goals
    intro hx
    refine ⟨?_, hx⟩
    cases x; cases y; simp_all [resV]
theorem eqOrdS_c (a b : Option Addr) (n c m d : Nat) (xs ys : List Ord) (w : World) (hr : Row w a 5 (xs.map encOrd)) (hs : Row w b 5 (ys.map encOrd)) (hn : xs.length = n) (hm : ys.length = m) (hl : n ≤ 4611686018427387904) (hl2 : m ≤ 4611686018427387904) :
    Calls Try.prog 19 #[.slice a n c, .slice b m d] w fun e w' => e = .returned (.bool (decide (xs = ys))) ∧ E0 w w' := by
  refine enterK Non 27 Try.func19 rfl rfl rfl fun K hK => ?_
  conv => whnf
  repeat (first | ((with_reducible refine NEXTK.normal ?_); conv => whnf) | ((with_reducible refine NEXTK.exit ?_); conv => whnf) | ((with_reducible refine NEXTK.ret ?_); conv => whnf) | ((with_reducible refine SEQ.plain ?_); conv => whnf) | ((with_reducible refine AR.ok ?_ ?_); exact ⟨by omega, by omega⟩; conv => whnf))
  refine BIF.bne (fun hne => ?_) (fun he => ?_)
  · repeat (any_goals (
      conv => whnf
      first
      | ((with_reducible refine BIF.dec ?_ ?_) <;> intro _)
      | ((with_reducible refine BIF.s ?_ ?_) <;> intro _)
      | (with_reducible refine NEXTK.normal ?_)
      | (with_reducible refine NEXTK.ret ?_)
      | (with_reducible refine NEXTK.exit ?_)
      | (with_reducible refine SEQ.plain ?_)
      | (with_reducible refine hK _ _ ?_)
      | ((with_reducible refine AR.ok ?_ ?_); exact ⟨by first | omega | (dsimp only; omega), by first | omega | (dsimp only; omega)⟩)
      | (with_reducible refine AR.wr ?_)
      | ((with_reducible intro w3 e3); try have z3 := cutLe e3)
      | ((with_reducible intro h3); have h4 := Nat.le_of_lt h3; clear h4)))
    intro hx
    refine ⟨?_, hx⟩
    rw [decide_eq_false (fun e => hne (by rw [← hn, ← hm, e]))]; rfl
  · have hnm : n = m := by omega
    conv => whnf
    repeat (first | ((with_reducible refine NEXTK.normal ?_); conv => whnf) | ((with_reducible refine NEXTK.exit ?_); conv => whnf) | ((with_reducible refine NEXTK.ret ?_); conv => whnf) | ((with_reducible refine SEQ.plain ?_); conv => whnf) | ((with_reducible refine AR.ok ?_ ?_); exact ⟨by omega, by omega⟩; conv => whnf))
    refine LOOP.mk Nat (fun k => [(5, .v (.int .i64 k))]) (fun k wr => k ≤ n ∧ xs.take k = ys.take k) (fun k => n - k) 0 rfl ⟨rfl, trivial⟩ ⟨Nat.zero_le _, rfl⟩ ?_
    rintro k wr - ⟨hk, ho⟩
    conv => whnf
    repeat (first | ((with_reducible refine NEXTK.normal ?_); conv => whnf) | ((with_reducible refine NEXTK.exit ?_); conv => whnf) | ((with_reducible refine NEXTK.ret ?_); conv => whnf) | ((with_reducible refine SEQ.plain ?_); conv => whnf) | ((with_reducible refine AR.ok ?_ ?_); exact ⟨by omega, by omega⟩; conv => whnf))
    refine BIF.dec (fun hlt => ?_) (fun hlt => ?_)
    · have hlt1 : k < xs.length := by omega
      have hlt2 : k < ys.length := by omega
      have is1 := hr.isSome (by simp; omega)
      have is2 := hs.isSome (by simp; omega)
      conv => whnf
      repeat (first | ((with_reducible refine NEXTK.normal ?_); conv => whnf) | ((with_reducible refine NEXTK.exit ?_); conv => whnf) | ((with_reducible refine NEXTK.ret ?_); conv => whnf) | ((with_reducible refine SEQ.plain ?_); conv => whnf) | ((with_reducible refine AR.ok ?_ ?_); exact ⟨by omega, by omega⟩; conv => whnf))
      refine DRAW.quiet (by kernel_rfl) (by kernel_rfl) ?_
      repeat (any_goals (
        conv => whnf
        first
        | ((with_reducible refine OBL.mk ?_ (fun _ => ?_)); exact ⟨by omega, by omega, by first | exact is1 | exact is2⟩)
        | ((with_reducible refine ELD.at (enc := encOrd) (xs := xs) k hr ?_ ?_ ?_ (fun x hx => ?_)); exact mAddr_Non _; rfl; exact hlt1)
        | ((with_reducible refine ELD.at (enc := encOrd) (xs := ys) k hs ?_ ?_ ?_ (fun y hy => ?_)); exact mAddr_Non _; rfl; exact hlt2)
        | ((with_reducible refine callQ (g := 56) ?_ ?_); kernel_rfl; refine ⟨_, fun w' _ => eqOrd_c x y _, ?_⟩)
        | ((with_reducible refine BIF.dec ?_ ?_) <;> intro _)
        | ((with_reducible refine BIF.s ?_ ?_) <;> intro _)
        | (with_reducible refine NEXTK.normal ?_)
        | (with_reducible refine NEXTK.ret ?_)
        | (with_reducible refine NEXTK.exit ?_)
        | (with_reducible refine SEQ.plain ?_)
        | (with_reducible refine hK _ _ ?_)
        | ((with_reducible refine AR.ok ?_ ?_); exact ⟨by first | omega | (dsimp only; omega), by first | omega | (dsimp only; omega)⟩)
        | (with_reducible refine AR.wr ?_)
        | ((with_reducible intro w3 e3); try have z3 := cutLe e3)
        | ((with_reducible intro h3); have h4 := Nat.le_of_lt h3; clear h4)))
      all_goals first
        | (intro hw
           refine ⟨?_, hw⟩
           rw [decide_eq_false (fun e => by subst e; simp_all)]; rfl)
        | (refine ⟨k + 1, rfl, ⟨rfl, trivial⟩, rfl, rfl, ⟨by omega, ?_⟩, by omega⟩
           rw [List.take_add_one, List.take_add_one, ho]
           simp_all)
    · conv => whnf
      repeat (first | ((with_reducible refine NEXTK.normal ?_); conv => whnf) | ((with_reducible refine NEXTK.exit ?_); conv => whnf) | ((with_reducible refine NEXTK.ret ?_); conv => whnf) | ((with_reducible refine SEQ.plain ?_); conv => whnf) | ((with_reducible refine AR.ok ?_ ?_); exact ⟨by omega, by omega⟩; conv => whnf))
      refine hK _ _ ?_
      conv => whnf
      intro hx
      refine ⟨?_, hx⟩
      have e1 : k = xs.length := by omega
      have e2 : k = ys.length := by omega
      rw [List.take_of_length_le (by omega), List.take_of_length_le (by omega)] at ho
      rw [decide_eq_true ho]; rfl
def mkOrd (k : Int) (i : Nat) : Ord := ⟨k + 5 * i, k + 5 * i + 1, k + 5 * i + 1 + 1, k + 5 * i + 1 + 1 + 1, k + 5 * i + 1 + 1 + 1 + 1⟩
theorem markOrdS_c (lo : Nat) (a : Option Addr) (n cp : Nat) (xs : List Ord) (k : Int) (w : World) (ho : Own w lo 62 5 (.slice a n cp) (xs.map encOrd)) (hn : xs.length = n) (hm : n ≤ 4194304) (hk : 0 ≤ k ∧ k ≤ 1099511627776) :
    Calls Try.prog 32 #[.slice a n cp, .int .i64 k] w fun e w' => ∃ r, e = .returned r ∧ Ext (fun b => (Value.slice a n cp).ownBlock = some b) w w' ∧ r = .int .i64 (k + 5 * n) ∧ Own w' lo 62 5 (.slice a n cp) (((List.range n).map (mkOrd k)).map encOrd) := by
  refine enterK (fun b => (Value.slice a n cp).ownBlock = some b) 48 Try.func32 rfl rfl rfl fun K hK => ?_
  conv => whnf
  repeat (first | ((with_reducible refine NEXTK.normal ?_); conv => whnf) | ((with_reducible refine NEXTK.exit ?_); conv => whnf) | ((with_reducible refine NEXTK.ret ?_); conv => whnf) | ((with_reducible refine SEQ.plain ?_); conv => whnf) | ((with_reducible refine AR.ok ?_ ?_); exact ⟨by omega, by omega⟩; conv => whnf))
  refine LOOP.mk Nat (fun j => [(5, .v (.int .i64 j)), (1, .v (.int .i64 (k + 5 * j)))]) (fun j wr => j ≤ n ∧ Own wr lo 62 5 (.slice a n cp) (((List.range j).map (mkOrd k) ++ xs.drop j).map encOrd)) (fun j => n - j) 0 rfl ⟨rfl, by simp [lk, Nat.beq], trivial⟩ ⟨Nat.zero_le _, by simpa using ho⟩ ?_
  rintro j wr - ⟨hj, hw⟩
  conv => whnf
  repeat (first | ((with_reducible refine NEXTK.normal ?_); conv => whnf) | ((with_reducible refine NEXTK.exit ?_); conv => whnf) | ((with_reducible refine NEXTK.ret ?_); conv => whnf) | ((with_reducible refine SEQ.plain ?_); conv => whnf) | ((with_reducible refine AR.ok ?_ ?_); exact ⟨by omega, by omega⟩; conv => whnf))
  refine BIF.dec (fun hlt => ?_) (fun hlt => ?_)
  · have hlt' : j < xs.length := by omega
    obtain ⟨x, hx⟩ : ∃ x, xs[j]? = some x := ⟨xs[j], by simp [hlt']⟩
    have his := hw.row.1.isSome (by simp; omega)
    have g0 := mark_get (mkOrd k) encOrd hx
    conv => whnf
    repeat (first | ((with_reducible refine NEXTK.normal ?_); conv => whnf) | ((with_reducible refine NEXTK.exit ?_); conv => whnf) | ((with_reducible refine NEXTK.ret ?_); conv => whnf) | ((with_reducible refine SEQ.plain ?_); conv => whnf) | ((with_reducible refine AR.ok ?_ ?_); exact ⟨by omega, by omega⟩; conv => whnf))
    refine OBL.mk ⟨by omega, by omega, his⟩ (fun _ => ?_)
    conv => whnf
    repeat (first | ((with_reducible refine NEXTK.normal ?_); conv => whnf) | ((with_reducible refine NEXTK.exit ?_); conv => whnf) | ((with_reducible refine NEXTK.ret ?_); conv => whnf) | ((with_reducible refine SEQ.plain ?_); conv => whnf) | ((with_reducible refine AR.ok ?_ ?_); exact ⟨by omega, by omega⟩; conv => whnf))
    refine stM (i := j) hw rfl rfl rfl j rfl g0 (by decide) (fun _ h => h) trivial (fun w0 e0 hw0 => ?_)
    clear hw
    replace hw : Own w0 lo 62 5 (.slice a n cp) (List.set _ j [.int .i64 (k + 5 * j), .int .i64 x.fReader, .int .i64 x.fPages, .int .i64 x.fPlaced, .int .i64 x.fReady]) := hw0
    clear hw0
    have g1 := set_get (d := [.int .i64 (k + 5 * j), .int .i64 x.fReader, .int .i64 x.fPages, .int .i64 x.fPlaced, .int .i64 x.fReady]) g0
    conv => whnf
    repeat (first | ((with_reducible refine NEXTK.normal ?_); conv => whnf) | ((with_reducible refine NEXTK.exit ?_); conv => whnf) | ((with_reducible refine NEXTK.ret ?_); conv => whnf) | ((with_reducible refine SEQ.plain ?_); conv => whnf) | ((with_reducible refine AR.ok ?_ ?_); exact ⟨by omega, by omega⟩; conv => whnf))
    refine OBL.mk ⟨by omega, by omega, his⟩ (fun _ => ?_)
    conv => whnf
    repeat (first | ((with_reducible refine NEXTK.normal ?_); conv => whnf) | ((with_reducible refine NEXTK.exit ?_); conv => whnf) | ((with_reducible refine NEXTK.ret ?_); conv => whnf) | ((with_reducible refine SEQ.plain ?_); conv => whnf) | ((with_reducible refine AR.ok ?_ ?_); exact ⟨by omega, by omega⟩; conv => whnf))
    refine stM (i := j) hw rfl rfl rfl j rfl g1 (by decide) (fun _ h => h) trivial (fun w1 e1 hw1 => ?_)
    clear hw
    replace hw : Own w1 lo 62 5 (.slice a n cp) (List.set _ j [.int .i64 (k + 5 * j), .int .i64 (k + 5 * j + 1), .int .i64 x.fPages, .int .i64 x.fPlaced, .int .i64 x.fReady]) := hw1
    clear hw1
    have g2 := set_get (d := [.int .i64 (k + 5 * j), .int .i64 (k + 5 * j + 1), .int .i64 x.fPages, .int .i64 x.fPlaced, .int .i64 x.fReady]) g1
    conv => whnf
    repeat (first | ((with_reducible refine NEXTK.normal ?_); conv => whnf) | ((with_reducible refine NEXTK.exit ?_); conv => whnf) | ((with_reducible refine NEXTK.ret ?_); conv => whnf) | ((with_reducible refine SEQ.plain ?_); conv => whnf) | ((with_reducible refine AR.ok ?_ ?_); exact ⟨by omega, by omega⟩; conv => whnf))
    refine OBL.mk ⟨by omega, by omega, his⟩ (fun _ => ?_)
    conv => whnf
    repeat (first | ((with_reducible refine NEXTK.normal ?_); conv => whnf) | ((with_reducible refine NEXTK.exit ?_); conv => whnf) | ((with_reducible refine NEXTK.ret ?_); conv => whnf) | ((with_reducible refine SEQ.plain ?_); conv => whnf) | ((with_reducible refine AR.ok ?_ ?_); exact ⟨by omega, by omega⟩; conv => whnf))
    refine stM (i := j) hw rfl rfl rfl j rfl g2 (by decide) (fun _ h => h) trivial (fun w2 e2 hw2 => ?_)
    clear hw
    replace hw : Own w2 lo 62 5 (.slice a n cp) (List.set _ j [.int .i64 (k + 5 * j), .int .i64 (k + 5 * j + 1), .int .i64 (k + 5 * j + 1 + 1), .int .i64 x.fPlaced, .int .i64 x.fReady]) := hw2
    clear hw2
    have g3 := set_get (d := [.int .i64 (k + 5 * j), .int .i64 (k + 5 * j + 1), .int .i64 (k + 5 * j + 1 + 1), .int .i64 x.fPlaced, .int .i64 x.fReady]) g2
    conv => whnf
    repeat (first | ((with_reducible refine NEXTK.normal ?_); conv => whnf) | ((with_reducible refine NEXTK.exit ?_); conv => whnf) | ((with_reducible refine NEXTK.ret ?_); conv => whnf) | ((with_reducible refine SEQ.plain ?_); conv => whnf) | ((with_reducible refine AR.ok ?_ ?_); exact ⟨by omega, by omega⟩; conv => whnf))
    refine OBL.mk ⟨by omega, by omega, his⟩ (fun _ => ?_)
    conv => whnf
    repeat (first | ((with_reducible refine NEXTK.normal ?_); conv => whnf) | ((with_reducible refine NEXTK.exit ?_); conv => whnf) | ((with_reducible refine NEXTK.ret ?_); conv => whnf) | ((with_reducible refine SEQ.plain ?_); conv => whnf) | ((with_reducible refine AR.ok ?_ ?_); exact ⟨by omega, by omega⟩; conv => whnf))
    refine stM (i := j) hw rfl rfl rfl j rfl g3 (by decide) (fun _ h => h) trivial (fun w3 e3 hw3 => ?_)
    clear hw
    replace hw : Own w3 lo 62 5 (.slice a n cp) (List.set _ j [.int .i64 (k + 5 * j), .int .i64 (k + 5 * j + 1), .int .i64 (k + 5 * j + 1 + 1), .int .i64 (k + 5 * j + 1 + 1 + 1), .int .i64 x.fReady]) := hw3
    clear hw3
    have g4 := set_get (d := [.int .i64 (k + 5 * j), .int .i64 (k + 5 * j + 1), .int .i64 (k + 5 * j + 1 + 1), .int .i64 (k + 5 * j + 1 + 1 + 1), .int .i64 x.fReady]) g3
    conv => whnf
    repeat (first | ((with_reducible refine NEXTK.normal ?_); conv => whnf) | ((with_reducible refine NEXTK.exit ?_); conv => whnf) | ((with_reducible refine NEXTK.ret ?_); conv => whnf) | ((with_reducible refine SEQ.plain ?_); conv => whnf) | ((with_reducible refine AR.ok ?_ ?_); exact ⟨by omega, by omega⟩; conv => whnf))
    refine OBL.mk ⟨by omega, by omega, his⟩ (fun _ => ?_)
    conv => whnf
    repeat (first | ((with_reducible refine NEXTK.normal ?_); conv => whnf) | ((with_reducible refine NEXTK.exit ?_); conv => whnf) | ((with_reducible refine NEXTK.ret ?_); conv => whnf) | ((with_reducible refine SEQ.plain ?_); conv => whnf) | ((with_reducible refine AR.ok ?_ ?_); exact ⟨by omega, by omega⟩; conv => whnf))
    refine stM (i := j) hw rfl rfl rfl j rfl g4 (by decide) (fun _ h => h) trivial (fun w4 e4 hw4 => ?_)
    clear hw
    replace hw : Own w4 lo 62 5 (.slice a n cp) (List.set _ j [.int .i64 (k + 5 * j), .int .i64 (k + 5 * j + 1), .int .i64 (k + 5 * j + 1 + 1), .int .i64 (k + 5 * j + 1 + 1 + 1), .int .i64 (k + 5 * j + 1 + 1 + 1 + 1)]) := hw4
    clear hw4
    have g5 := set_get (d := [.int .i64 (k + 5 * j), .int .i64 (k + 5 * j + 1), .int .i64 (k + 5 * j + 1 + 1), .int .i64 (k + 5 * j + 1 + 1 + 1), .int .i64 (k + 5 * j + 1 + 1 + 1 + 1)]) g4
    simp only [List.set_set] at hw
    replace hw := (mark_set (mkOrd k) xs encOrd j hlt') ▸ hw
    conv => whnf
    repeat (first | ((with_reducible refine NEXTK.normal ?_); conv => whnf) | ((with_reducible refine NEXTK.exit ?_); conv => whnf) | ((with_reducible refine NEXTK.ret ?_); conv => whnf) | ((with_reducible refine SEQ.plain ?_); conv => whnf) | ((with_reducible refine AR.ok ?_ ?_); exact ⟨by omega, by omega⟩; conv => whnf))
    refine ⟨j + 1, rfl, ⟨rfl, ?_, trivial⟩, rfl, rfl, ⟨by omega, hw⟩, by omega⟩
    simp [lk, Nat.beq]
    omega
  · obtain rfl : j = n := by omega
    conv => whnf
    repeat (first | ((with_reducible refine NEXTK.normal ?_); conv => whnf) | ((with_reducible refine NEXTK.exit ?_); conv => whnf) | ((with_reducible refine NEXTK.ret ?_); conv => whnf) | ((with_reducible refine SEQ.plain ?_); conv => whnf) | ((with_reducible refine AR.ok ?_ ?_); exact ⟨by omega, by omega⟩; conv => whnf))
    refine hK _ _ ?_
    conv => whnf
    intro hx
    rw [mark_all _ _ _ hn] at hw
    exact ⟨_, rfl, hx, rfl, hw⟩
theorem heldOrdS_c (a : Option Addr) (n cp : Nat) (k : Int) (w : World) (hr : Row w a 5 (((List.range n).map (mkOrd k)).map encOrd)) (hm : n ≤ 4194304) (hk : 0 ≤ k ∧ k ≤ 1099511627776) :
    Calls Try.prog 33 #[.slice a n cp, .int .i64 k] w fun e w' => e = .returned (.int .i64 (k + 5 * n)) ∧ E0 w w' := by
  refine enterK Non 58 Try.func33 rfl rfl rfl fun K hK => ?_
  conv => whnf
  repeat (first | ((with_reducible refine NEXTK.normal ?_); conv => whnf) | ((with_reducible refine NEXTK.exit ?_); conv => whnf) | ((with_reducible refine NEXTK.ret ?_); conv => whnf) | ((with_reducible refine SEQ.plain ?_); conv => whnf) | ((with_reducible refine AR.ok ?_ ?_); exact ⟨by omega, by omega⟩; conv => whnf))
  refine LOOP.mk Nat (fun j => [(5, .v (.int .i64 j)), (1, .v (.int .i64 (k + 5 * j)))]) (fun j wr => j ≤ n) (fun j => n - j) 0 rfl ⟨rfl, by simp [lk, Nat.beq], trivial⟩ (Nat.zero_le _) ?_
  rintro j wr - hj
  conv => whnf
  repeat (first | ((with_reducible refine NEXTK.normal ?_); conv => whnf) | ((with_reducible refine NEXTK.exit ?_); conv => whnf) | ((with_reducible refine NEXTK.ret ?_); conv => whnf) | ((with_reducible refine SEQ.plain ?_); conv => whnf) | ((with_reducible refine AR.ok ?_ ?_); exact ⟨by omega, by omega⟩; conv => whnf))
  refine BIF.dec (fun hlt => ?_) (fun hlt => ?_)
  · have hlt' : j < ((List.range n).map (mkOrd k)).length := by simp; omega
    have his := hr.isSome (by simp; omega)
    have hx : ((List.range n).map (mkOrd k))[j]? = some (mkOrd k j) := by rw [List.getElem?_map, List.getElem?_range (by omega)]; rfl
    repeat (any_goals (
      conv => whnf
      first
      | ((with_reducible refine OBL.mk ?_ (fun _ => ?_)); exact ⟨by omega, by omega, his⟩)
      | ((with_reducible refine ELD.at (j) hr ?_ ?_ ?_ (fun x' hx' => ?_)); exact mAddr_Non _; (first | rfl | omega); exact hlt'; obtain rfl : mkOrd k j = x' := by (rw [hx] at hx'; exact Option.some.inj hx'))
      | ((with_reducible refine BIF.bne (fun h => absurd rfl h) (fun _ => ?_)))
      | ((with_reducible refine BIF.dec ?_ ?_) <;> intro _)
      | ((with_reducible refine BIF.s ?_ ?_) <;> intro _)
      | (with_reducible refine NEXTK.normal ?_)
      | (with_reducible refine NEXTK.ret ?_)
      | (with_reducible refine NEXTK.exit ?_)
      | (with_reducible refine SEQ.plain ?_)
      | (with_reducible refine hK _ _ ?_)
      | ((with_reducible refine AR.ok ?_ ?_); exact ⟨by first | omega | (dsimp only; omega), by first | omega | (dsimp only; omega)⟩)
      | (with_reducible refine AR.wr ?_)
      | ((with_reducible intro w3 e3); try have z3 := cutLe e3)
      | ((with_reducible intro h3); have h4 := Nat.le_of_lt h3; clear h4)))
    refine ⟨j + 1, rfl, ⟨rfl, ?_, trivial⟩, rfl, rfl, by omega, by omega⟩
    simp [lk, Nat.beq]
    omega
  · obtain rfl : j = n := by omega
    repeat (any_goals (
      conv => whnf
      first
      | ((with_reducible refine BIF.dec ?_ ?_) <;> intro _)
      | ((with_reducible refine BIF.s ?_ ?_) <;> intro _)
      | (with_reducible refine NEXTK.normal ?_)
      | (with_reducible refine NEXTK.ret ?_)
      | (with_reducible refine NEXTK.exit ?_)
      | (with_reducible refine SEQ.plain ?_)
      | (with_reducible refine hK _ _ ?_)
      | ((with_reducible refine AR.ok ?_ ?_); exact ⟨by first | omega | (dsimp only; omega), by first | omega | (dsimp only; omega)⟩)
      | (with_reducible refine AR.wr ?_)
      | ((with_reducible intro w3 e3); try have z3 := cutLe e3)
      | ((with_reducible intro h3); have h4 := Nat.le_of_lt h3; clear h4)))
    intro hx
    exact ⟨rfl, hx⟩
def encI (x : Int) : List Value := [.int .i64 x]
def zeroI : List Value := [.int .i64 0]
def fitI (x : Int) : Prop := -9223372036854775808 ≤ x ∧ x ≤ 9223372036854775807
theorem encI_one (x : Int) : allOne (encI x) = true := rfl
theorem elemI : ElemT Try.prog 42 3 1 8 zeroI := ElemT.mk' (by kernel_rfl) (by kernel_rfl)
def mkI (k : Int) (i : Nat) : Int := k + 1 * i
theorem eqIntS_c (a b : Option Addr) (n c m d : Nat) (xs ys : List Int) (w : World) (hr : Row w a 1 (xs.map encI)) (hs : Row w b 1 (ys.map encI)) (hn : xs.length = n) (hm : ys.length = m) (hl : n ≤ 4611686018427387904) (hl2 : m ≤ 4611686018427387904) :
    Calls Try.prog 36 #[.slice a n c, .slice b m d] w fun e w' => e = .returned (.bool (decide (xs = ys))) ∧ E0 w w' := by
  refine enterK Non 26 Try.func36 rfl rfl rfl fun K hK => ?_
  conv => whnf
  repeat (first | ((with_reducible refine NEXTK.normal ?_); conv => whnf) | ((with_reducible refine NEXTK.exit ?_); conv => whnf) | ((with_reducible refine NEXTK.ret ?_); conv => whnf) | ((with_reducible refine SEQ.plain ?_); conv => whnf) | ((with_reducible refine AR.ok ?_ ?_); exact ⟨by omega, by omega⟩; conv => whnf))
  refine BIF.bne (fun hne => ?_) (fun he => ?_)
  · repeat (any_goals (
      conv => whnf
      first
      | ((with_reducible refine BIF.dec ?_ ?_) <;> intro _)
      | ((with_reducible refine BIF.s ?_ ?_) <;> intro _)
      | (with_reducible refine NEXTK.normal ?_)
      | (with_reducible refine NEXTK.ret ?_)
      | (with_reducible refine NEXTK.exit ?_)
      | (with_reducible refine SEQ.plain ?_)
      | (with_reducible refine hK _ _ ?_)
      | ((with_reducible refine AR.ok ?_ ?_); exact ⟨by first | omega | (dsimp only; omega), by first | omega | (dsimp only; omega)⟩)
      | (with_reducible refine AR.wr ?_)
      | ((with_reducible intro w3 e3); try have z3 := cutLe e3)
      | ((with_reducible intro h3); have h4 := Nat.le_of_lt h3; clear h4)))
    intro hx
    refine ⟨?_, hx⟩
    rw [decide_eq_false (fun e => hne (by rw [← hn, ← hm, e]))]; rfl
  · have hnm : n = m := by omega
    conv => whnf
    repeat (first | ((with_reducible refine NEXTK.normal ?_); conv => whnf) | ((with_reducible refine NEXTK.exit ?_); conv => whnf) | ((with_reducible refine NEXTK.ret ?_); conv => whnf) | ((with_reducible refine SEQ.plain ?_); conv => whnf) | ((with_reducible refine AR.ok ?_ ?_); exact ⟨by omega, by omega⟩; conv => whnf))
    refine LOOP.mk Nat (fun k => [(5, .v (.int .i64 k))]) (fun k wr => k ≤ n ∧ xs.take k = ys.take k) (fun k => n - k) 0 rfl ⟨rfl, trivial⟩ ⟨Nat.zero_le _, rfl⟩ ?_
    rintro k wr - ⟨hk, ho⟩
    conv => whnf
    repeat (first | ((with_reducible refine NEXTK.normal ?_); conv => whnf) | ((with_reducible refine NEXTK.exit ?_); conv => whnf) | ((with_reducible refine NEXTK.ret ?_); conv => whnf) | ((with_reducible refine SEQ.plain ?_); conv => whnf) | ((with_reducible refine AR.ok ?_ ?_); exact ⟨by omega, by omega⟩; conv => whnf))
    refine BIF.dec (fun hlt => ?_) (fun hlt => ?_)
    · have hlt1 : k < xs.length := by omega
      have hlt2 : k < ys.length := by omega
      have is1 := hr.isSome (by simp; omega)
      have is2 := hs.isSome (by simp; omega)
      conv => whnf
      repeat (first | ((with_reducible refine NEXTK.normal ?_); conv => whnf) | ((with_reducible refine NEXTK.exit ?_); conv => whnf) | ((with_reducible refine NEXTK.ret ?_); conv => whnf) | ((with_reducible refine SEQ.plain ?_); conv => whnf) | ((with_reducible refine AR.ok ?_ ?_); exact ⟨by omega, by omega⟩; conv => whnf))
      refine DRAW.quiet (by kernel_rfl) (by kernel_rfl) ?_
      repeat (any_goals (
        conv => whnf
        first
        | ((with_reducible refine OBL.mk ?_ (fun _ => ?_)); exact ⟨by omega, by omega, by first | exact is1 | exact is2⟩)
        | ((with_reducible refine ELD.at (enc := encI) (xs := xs) k hr ?_ ?_ ?_ (fun x hx => ?_)); exact mAddr_Non _; rfl; exact hlt1)
        | ((with_reducible refine ELD.at (enc := encI) (xs := ys) k hs ?_ ?_ ?_ (fun y hy => ?_)); exact mAddr_Non _; rfl; exact hlt2)
        | ((with_reducible refine BIF.bne ?_ ?_) <;> intro _)
        | ((with_reducible refine BIF.dec ?_ ?_) <;> intro _)
        | ((with_reducible refine BIF.s ?_ ?_) <;> intro _)
        | (with_reducible refine NEXTK.normal ?_)
        | (with_reducible refine NEXTK.ret ?_)
        | (with_reducible refine NEXTK.exit ?_)
        | (with_reducible refine SEQ.plain ?_)
        | (with_reducible refine hK _ _ ?_)
        | ((with_reducible refine AR.ok ?_ ?_); exact ⟨by first | omega | (dsimp only; omega), by first | omega | (dsimp only; omega)⟩)
        | (with_reducible refine AR.wr ?_)
        | ((with_reducible intro w3 e3); try have z3 := cutLe e3)
        | ((with_reducible intro h3); have h4 := Nat.le_of_lt h3; clear h4)))
      all_goals first
        | (intro hw
           refine ⟨?_, hw⟩
           rw [decide_eq_false (fun e => by subst e; simp_all)]; rfl)
        | (refine ⟨k + 1, rfl, ⟨rfl, trivial⟩, rfl, rfl, ⟨by omega, ?_⟩, by omega⟩
           rw [List.take_add_one, List.take_add_one, ho]
           simp_all)
    · conv => whnf
      repeat (first | ((with_reducible refine NEXTK.normal ?_); conv => whnf) | ((with_reducible refine NEXTK.exit ?_); conv => whnf) | ((with_reducible refine NEXTK.ret ?_); conv => whnf) | ((with_reducible refine SEQ.plain ?_); conv => whnf) | ((with_reducible refine AR.ok ?_ ?_); exact ⟨by omega, by omega⟩; conv => whnf))
      refine hK _ _ ?_
      conv => whnf
      intro hx
      refine ⟨?_, hx⟩
      have e1 : k = xs.length := by omega
      have e2 : k = ys.length := by omega
      rw [List.take_of_length_le (by omega), List.take_of_length_le (by omega)] at ho
      rw [decide_eq_true ho]; rfl
theorem markIntS_c (lo : Nat) (a : Option Addr) (n cp : Nat) (xs : List Int) (k : Int) (w : World) (ho : Own w lo 3 1 (.slice a n cp) (xs.map encI)) (hn : xs.length = n) (hm : n ≤ 4194304) (hk : 0 ≤ k ∧ k ≤ 1099511627776) :
    Calls Try.prog 37 #[.slice a n cp, .int .i64 k] w fun e w' => ∃ r, e = .returned r ∧ Ext (fun b => (Value.slice a n cp).ownBlock = some b) w w' ∧ r = .int .i64 (k + 1 * n) ∧ Own w' lo 3 1 (.slice a n cp) (((List.range n).map (mkI k)).map encI) := by
  refine enterK (fun b => (Value.slice a n cp).ownBlock = some b) 19 Try.func37 rfl rfl rfl fun K hK => ?_
  conv => whnf
  repeat (first | ((with_reducible refine NEXTK.normal ?_); conv => whnf) | ((with_reducible refine NEXTK.exit ?_); conv => whnf) | ((with_reducible refine NEXTK.ret ?_); conv => whnf) | ((with_reducible refine SEQ.plain ?_); conv => whnf) | ((with_reducible refine AR.ok ?_ ?_); exact ⟨by omega, by omega⟩; conv => whnf))
  refine LOOP.mk Nat (fun j => [(5, .v (.int .i64 j)), (1, .v (.int .i64 (k + 1 * j)))]) (fun j wr => j ≤ n ∧ Own wr lo 3 1 (.slice a n cp) (((List.range j).map (mkI k) ++ xs.drop j).map encI)) (fun j => n - j) 0 rfl ⟨rfl, by simp [lk, Nat.beq], trivial⟩ ⟨Nat.zero_le _, by simpa using ho⟩ ?_
  rintro j wr - ⟨hj, hw⟩
  conv => whnf
  repeat (first | ((with_reducible refine NEXTK.normal ?_); conv => whnf) | ((with_reducible refine NEXTK.exit ?_); conv => whnf) | ((with_reducible refine NEXTK.ret ?_); conv => whnf) | ((with_reducible refine SEQ.plain ?_); conv => whnf) | ((with_reducible refine AR.ok ?_ ?_); exact ⟨by omega, by omega⟩; conv => whnf))
  refine BIF.dec (fun hlt => ?_) (fun hlt => ?_)
  · have hlt' : j < xs.length := by omega
    obtain ⟨x, hx⟩ : ∃ x, xs[j]? = some x := ⟨xs[j], by simp [hlt']⟩
    have his := hw.row.1.isSome (by simp; omega)
    have g0 := mark_get (mkI k) encI hx
    conv => whnf
    repeat (first | ((with_reducible refine NEXTK.normal ?_); conv => whnf) | ((with_reducible refine NEXTK.exit ?_); conv => whnf) | ((with_reducible refine NEXTK.ret ?_); conv => whnf) | ((with_reducible refine SEQ.plain ?_); conv => whnf) | ((with_reducible refine AR.ok ?_ ?_); exact ⟨by omega, by omega⟩; conv => whnf))
    refine OBL.mk ⟨by omega, by omega, his⟩ (fun _ => ?_)
    conv => whnf
    repeat (first | ((with_reducible refine NEXTK.normal ?_); conv => whnf) | ((with_reducible refine NEXTK.exit ?_); conv => whnf) | ((with_reducible refine NEXTK.ret ?_); conv => whnf) | ((with_reducible refine SEQ.plain ?_); conv => whnf) | ((with_reducible refine AR.ok ?_ ?_); exact ⟨by omega, by omega⟩; conv => whnf))
    refine stM (i := j) hw rfl rfl rfl j rfl g0 (by decide) (fun _ h => h) trivial (fun w0 e0 hw0 => ?_)
    clear hw
    replace hw : Own w0 lo 3 1 (.slice a n cp) (List.set _ j [.int .i64 (k + 1 * j)]) := hw0
    clear hw0
    replace hw := (mark_set (mkI k) xs encI j hlt') ▸ hw
    conv => whnf
    repeat (first | ((with_reducible refine NEXTK.normal ?_); conv => whnf) | ((with_reducible refine NEXTK.exit ?_); conv => whnf) | ((with_reducible refine NEXTK.ret ?_); conv => whnf) | ((with_reducible refine SEQ.plain ?_); conv => whnf) | ((with_reducible refine AR.ok ?_ ?_); exact ⟨by omega, by omega⟩; conv => whnf))
    refine ⟨j + 1, rfl, ⟨rfl, ?_, trivial⟩, rfl, rfl, ⟨by omega, hw⟩, by omega⟩
    simp [lk, Nat.beq]
    omega
  · obtain rfl : j = n := by omega
    conv => whnf
    repeat (first | ((with_reducible refine NEXTK.normal ?_); conv => whnf) | ((with_reducible refine NEXTK.exit ?_); conv => whnf) | ((with_reducible refine NEXTK.ret ?_); conv => whnf) | ((with_reducible refine SEQ.plain ?_); conv => whnf) | ((with_reducible refine AR.ok ?_ ?_); exact ⟨by omega, by omega⟩; conv => whnf))
    refine hK _ _ ?_
    conv => whnf
    intro hx
    rw [mark_all _ _ _ hn] at hw
    exact ⟨_, rfl, hx, rfl, hw⟩
theorem heldIntS_c (a : Option Addr) (n cp : Nat) (k : Int) (w : World) (hr : Row w a 1 (((List.range n).map (mkI k)).map encI)) (hm : n ≤ 4194304) (hk : 0 ≤ k ∧ k ≤ 1099511627776) :
    Calls Try.prog 38 #[.slice a n cp, .int .i64 k] w fun e w' => e = .returned (.int .i64 (k + 1 * n)) ∧ E0 w w' := by
  refine enterK Non 21 Try.func38 rfl rfl rfl fun K hK => ?_
  conv => whnf
  repeat (first | ((with_reducible refine NEXTK.normal ?_); conv => whnf) | ((with_reducible refine NEXTK.exit ?_); conv => whnf) | ((with_reducible refine NEXTK.ret ?_); conv => whnf) | ((with_reducible refine SEQ.plain ?_); conv => whnf) | ((with_reducible refine AR.ok ?_ ?_); exact ⟨by omega, by omega⟩; conv => whnf))
  refine LOOP.mk Nat (fun j => [(5, .v (.int .i64 j)), (1, .v (.int .i64 (k + 1 * j)))]) (fun j wr => j ≤ n) (fun j => n - j) 0 rfl ⟨rfl, by simp [lk, Nat.beq], trivial⟩ (Nat.zero_le _) ?_
  rintro j wr - hj
  conv => whnf
  repeat (first | ((with_reducible refine NEXTK.normal ?_); conv => whnf) | ((with_reducible refine NEXTK.exit ?_); conv => whnf) | ((with_reducible refine NEXTK.ret ?_); conv => whnf) | ((with_reducible refine SEQ.plain ?_); conv => whnf) | ((with_reducible refine AR.ok ?_ ?_); exact ⟨by omega, by omega⟩; conv => whnf))
  refine BIF.dec (fun hlt => ?_) (fun hlt => ?_)
  · have hlt' : j < ((List.range n).map (mkI k)).length := by simp; omega
    have his := hr.isSome (by simp; omega)
    have hx : ((List.range n).map (mkI k))[j]? = some (mkI k j) := by rw [List.getElem?_map, List.getElem?_range (by omega)]; rfl
    repeat (any_goals (
      conv => whnf
      first
      | ((with_reducible refine OBL.mk ?_ (fun _ => ?_)); exact ⟨by omega, by omega, his⟩)
      | ((with_reducible refine ELD.at (j) hr ?_ ?_ ?_ (fun x' hx' => ?_)); exact mAddr_Non _; (first | rfl | omega); exact hlt'; obtain rfl : mkI k j = x' := by (rw [hx] at hx'; exact Option.some.inj hx'))
      | ((with_reducible refine BIF.bne (fun h => absurd rfl h) (fun _ => ?_)))
      | ((with_reducible refine BIF.dec ?_ ?_) <;> intro _)
      | ((with_reducible refine BIF.s ?_ ?_) <;> intro _)
      | (with_reducible refine NEXTK.normal ?_)
      | (with_reducible refine NEXTK.ret ?_)
      | (with_reducible refine NEXTK.exit ?_)
      | (with_reducible refine SEQ.plain ?_)
      | (with_reducible refine hK _ _ ?_)
      | ((with_reducible refine AR.ok ?_ ?_); exact ⟨by first | omega | (dsimp only; omega), by first | omega | (dsimp only; omega)⟩)
      | (with_reducible refine AR.wr ?_)
      | ((with_reducible intro w3 e3); try have z3 := cutLe e3)
      | ((with_reducible intro h3); have h4 := Nat.le_of_lt h3; clear h4)))
    refine ⟨j + 1, rfl, ⟨rfl, ?_, trivial⟩, rfl, rfl, by omega, by omega⟩
    simp [lk, Nat.beq]
    omega
  · obtain rfl : j = n := by omega
    repeat (any_goals (
      conv => whnf
      first
      | ((with_reducible refine BIF.dec ?_ ?_) <;> intro _)
      | ((with_reducible refine BIF.s ?_ ?_) <;> intro _)
      | (with_reducible refine NEXTK.normal ?_)
      | (with_reducible refine NEXTK.ret ?_)
      | (with_reducible refine NEXTK.exit ?_)
      | (with_reducible refine SEQ.plain ?_)
      | (with_reducible refine hK _ _ ?_)
      | ((with_reducible refine AR.ok ?_ ?_); exact ⟨by first | omega | (dsimp only; omega), by first | omega | (dsimp only; omega)⟩)
      | (with_reducible refine AR.wr ?_)
      | ((with_reducible intro w3 e3); try have z3 := cutLe e3)
      | ((with_reducible intro h3); have h4 := Nat.le_of_lt h3; clear h4)))
    intro hx
    exact ⟨rfl, hx⟩
theorem own : ownKnob Try.prog.godebug = none := by kernel_rfl
theorem laidOut : laidOutB Try.prog = true := by kernel_rfl
def fitOrd (x : Ord) : Prop := (-9223372036854775808 ≤ x.fId ∧ x.fId ≤ 9223372036854775807) ∧ (-9223372036854775808 ≤ x.fReader ∧ x.fReader ≤ 9223372036854775807) ∧ (-9223372036854775808 ≤ x.fPages ∧ x.fPages ≤ 9223372036854775807) ∧ (-9223372036854775808 ≤ x.fPlaced ∧ x.fPlaced ≤ 9223372036854775807) ∧ (-9223372036854775808 ≤ x.fReady ∧ x.fReady ≤ 9223372036854775807)
theorem cellsOrd {H : Type} {en : TypeId × Value → H} {w : World} {base : Nat} {spare : Nat → Bool} {held : Bool} (n : Nat) (cs : List Value) (x : DataW H × List MemPlace) (hl : cs.length = 5)
    (h : DataW.trod en Try.prog w base spare held n 64 cs = some x) : ∃ y : Ord, cs = encOrd y ∧ fitOrd y := by
  obtain ⟨-, hf⟩ := open_cells Try.underlying64 (by kernel_rfl) (by kernel_rfl) h
  match cs, hl with
  | [c0, c1, c2, c3, c4], _ =>
    obtain ⟨v0, y0, n0, e0, t0⟩ := hf 0 _ rfl
    simp at e0
    subst e0
    obtain ⟨z0, q0, -, g0⟩ := DataW.trod_int Try.underlying3 t0
    simp at q0
    subst q0
    obtain ⟨v1, y1, n1, e1, t1⟩ := hf 1 _ rfl
    simp at e1
    subst e1
    obtain ⟨z1, q1, -, g1⟩ := DataW.trod_int Try.underlying3 t1
    simp at q1
    subst q1
    obtain ⟨v2, y2, n2, e2, t2⟩ := hf 2 _ rfl
    simp at e2
    subst e2
    obtain ⟨z2, q2, -, g2⟩ := DataW.trod_int Try.underlying3 t2
    simp at q2
    subst q2
    obtain ⟨v3, y3, n3, e3, t3⟩ := hf 3 _ rfl
    simp at e3
    subst e3
    obtain ⟨z3, q3, -, g3⟩ := DataW.trod_int Try.underlying3 t3
    simp at q3
    subst q3
    obtain ⟨v4, y4, n4, e4, t4⟩ := hf 4 _ rfl
    simp at e4
    subst e4
    obtain ⟨z4, q4, -, g4⟩ := DataW.trod_int Try.underlying3 t4
    simp at q4
    subst q4
    exact ⟨⟨z0, z1, z2, z3, z4⟩, rfl, wf64 g0, wf64 g1, wf64 g2, wf64 g3, wf64 g4⟩
end Go.Proofs.Ytjcpcnljhgfafaa

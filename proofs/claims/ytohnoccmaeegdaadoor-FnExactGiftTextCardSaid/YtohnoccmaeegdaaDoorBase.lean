/- The small functions and the conversions of the copies of the lists of gifts do what they say. -/
import Derived.Test.YtohnoccmaeegdaaDoorRows
import Derived.Test.YtohnoccmaeegdaaDoorOpen
import Derived.Test.YtohnoccmaeegdaaDoorText0
namespace Go.Proofs.YtohnoccmaeegdaaDoor
open Go Go.X Go.Proofs Go.ChangeShapes Go.WideShapes Go.ChangeAt Go.RowKit
open Go.ChangeMaps (open_string shut_string)
set_option maxHeartbeats 1000000
set_option maxRecDepth 20000
set_option linter.unusedVariables false
set_option linter.unusedSimpArgs false
def inB (n a b : Int) : Bool := decide (a ≤ n) && decide (n ≤ b)
theorem inB_iff {n a b : Int} : inB n a b = true ↔ a ≤ n ∧ n ≤ b := by simp [inB]
theorem within_c (n a b : Int) (w : World) : Calls Tryd.prog 16 #[.int .i64 n, .int .i64 a, .int .i64 b] w fun e w' => e = .returned (.bool (inB n a b)) ∧ E0 w w' := by
  refine enterK Non 15 Tryd.func16 rfl rfl rfl fun K hK => ?_
  repeat (any_goals (
    conv => whnf
    first
    | ((with_reducible refine BIF.dec ?_ ?_) <;> intro _)
    | ((with_reducible refine BIF.s ?_ ?_) <;> intro _)
    | (with_reducible refine NEXTK.normal ?_)
    | (with_reducible refine NEXTK.ret ?_)
    | (with_reducible refine NEXTK.exit ?_)
    | (with_reducible refine SEQ.plain ?_)
    | (with_reducible refine hK _ _ ?_)
    | ((with_reducible refine RUNL.agg (fun _ => ?_) ?_); (focus kernel_rfl))
    | (with_reducible refine RUNL.run ?_)
    | ((with_reducible refine AR.ok ?_ ?_); exact ⟨by first | omega | (dsimp only; omega), by first | omega | (dsimp only; omega)⟩)
    | (with_reducible refine AR.wr ?_)
    | ((with_reducible intro w3 e3); try have z3 := cutLe e3)
    | ((with_reducible intro h3); have h4 := Nat.le_of_lt h3; clear h4)))
  all_goals
    intro hx
    refine ⟨?_, hx⟩
    simp_all [inB, resV] <;> omega
theorem l1In_c (n a b : Int) (w : World) : Calls Tryd.prog 12 #[.int .i64 n, .int .i64 a, .int .i64 b] w fun e w' => e = .returned (.bool (inB n a b)) ∧ E0 w w' := by
  refine enterK Non 15 Tryd.func12 rfl rfl rfl fun K hK => ?_
  repeat (any_goals (
    conv => whnf
    first
    | ((with_reducible refine BIF.dec ?_ ?_) <;> intro _)
    | ((with_reducible refine BIF.s ?_ ?_) <;> intro _)
    | (with_reducible refine NEXTK.normal ?_)
    | (with_reducible refine NEXTK.ret ?_)
    | (with_reducible refine NEXTK.exit ?_)
    | (with_reducible refine SEQ.plain ?_)
    | (with_reducible refine hK _ _ ?_)
    | ((with_reducible refine RUNL.agg (fun _ => ?_) ?_); (focus kernel_rfl))
    | (with_reducible refine RUNL.run ?_)
    | ((with_reducible refine AR.ok ?_ ?_); exact ⟨by first | omega | (dsimp only; omega), by first | omega | (dsimp only; omega)⟩)
    | (with_reducible refine AR.wr ?_)
    | ((with_reducible intro w3 e3); try have z3 := cutLe e3)
    | ((with_reducible intro h3); have h4 := Nat.le_of_lt h3; clear h4)))
  all_goals
    intro hx
    refine ⟨?_, hx⟩
    simp_all [inB, resV] <;> omega
theorem isDay_c (n : Int) (w : World) : Calls Tryd.prog 15 #[.int .i64 n] w fun e w' => e = .returned (.bool (inB n 0 4000)) ∧ E0 w w' := by
  refine enterK Non 5 Tryd.func15 rfl rfl rfl fun K hK => ?_
  repeat (any_goals (
    conv => whnf
    first
    | ((with_reducible refine callF (g := 16) ?_ ?_); kernel_rfl; refine ⟨_, within_c _ _ _ _, ?_⟩; intro w4 e4; have z4 := cutLe e4)
    | ((with_reducible refine BIF.dec ?_ ?_) <;> intro _)
    | ((with_reducible refine BIF.s ?_ ?_) <;> intro _)
    | (with_reducible refine NEXTK.normal ?_)
    | (with_reducible refine NEXTK.ret ?_)
    | (with_reducible refine NEXTK.exit ?_)
    | (with_reducible refine SEQ.plain ?_)
    | (with_reducible refine hK _ _ ?_)
    | ((with_reducible refine RUNL.agg (fun _ => ?_) ?_); (focus kernel_rfl))
    | (with_reducible refine RUNL.run ?_)
    | ((with_reducible refine AR.ok ?_ ?_); exact ⟨by first | omega | (dsimp only; omega), by first | omega | (dsimp only; omega)⟩)
    | (with_reducible refine AR.wr ?_)
    | ((with_reducible intro w3 e3); try have z3 := cutLe e3)
    | ((with_reducible intro h3); have h4 := Nat.le_of_lt h3; clear h4)))
  intro hx
  exact ⟨rfl, hx⟩
theorem l2Day_c (n : Int) (w : World) : Calls Tryd.prog 14 #[.int .i64 n] w fun e w' => e = .returned (.bool (inB n 0 4000)) ∧ E0 w w' := by
  refine enterK Non 5 Tryd.func14 rfl rfl rfl fun K hK => ?_
  repeat (any_goals (
    conv => whnf
    first
    | ((with_reducible refine callF (g := 12) ?_ ?_); kernel_rfl; refine ⟨_, l1In_c _ _ _ _, ?_⟩; intro w4 e4; have z4 := cutLe e4)
    | ((with_reducible refine BIF.dec ?_ ?_) <;> intro _)
    | ((with_reducible refine BIF.s ?_ ?_) <;> intro _)
    | (with_reducible refine NEXTK.normal ?_)
    | (with_reducible refine NEXTK.ret ?_)
    | (with_reducible refine NEXTK.exit ?_)
    | (with_reducible refine SEQ.plain ?_)
    | (with_reducible refine hK _ _ ?_)
    | ((with_reducible refine RUNL.agg (fun _ => ?_) ?_); (focus kernel_rfl))
    | (with_reducible refine RUNL.run ?_)
    | ((with_reducible refine AR.ok ?_ ?_); exact ⟨by first | omega | (dsimp only; omega), by first | omega | (dsimp only; omega)⟩)
    | (with_reducible refine AR.wr ?_)
    | ((with_reducible intro w3 e3); try have z3 := cutLe e3)
    | ((with_reducible intro h3); have h4 := Nat.le_of_lt h3; clear h4)))
  all_goals
    intro hx
    refine ⟨?_, hx⟩
    simp_all [inB, resV] <;> omega
def okW (s : ByteArray) : Bool := inB s.size 1 10 && (bytesI s).all fun b => inB b 97 122
theorem isWord1_c (b : Int) (w : World) : Calls Tryd.prog 20 #[.int .u8 b] w fun e w' => e = .returned (.bool (!inB b 97 122)) ∧ E0 w w' := by
  refine enterK Non 9 Tryd.func20 rfl rfl rfl fun K hK => ?_
  repeat (any_goals (
    conv => whnf
    first
    | ((with_reducible refine BIF.dec ?_ ?_) <;> intro _)
    | ((with_reducible refine BIF.s ?_ ?_) <;> intro _)
    | (with_reducible refine NEXTK.normal ?_)
    | (with_reducible refine NEXTK.ret ?_)
    | (with_reducible refine NEXTK.exit ?_)
    | (with_reducible refine SEQ.plain ?_)
    | (with_reducible refine hK _ _ ?_)
    | ((with_reducible refine RUNL.agg (fun _ => ?_) ?_); (focus kernel_rfl))
    | (with_reducible refine RUNL.run ?_)
    | ((with_reducible refine AR.ok ?_ ?_); exact ⟨by first | omega | (dsimp only; omega), by first | omega | (dsimp only; omega)⟩)
    | (with_reducible refine AR.wr ?_)
    | ((with_reducible intro w3 e3); try have z3 := cutLe e3)
    | ((with_reducible intro h3); have h4 := Nat.le_of_lt h3; clear h4)))
  all_goals
    intro hx
    refine ⟨?_, hx⟩
    unfold inB
    clear hK
    first
    | (simp [resV]; omega)
    | (simp_all [resV]; try omega)
    all_goals (by_cases h : 122 < b <;> simp [h] <;> omega)
theorem IndexFuncB_c (p : Int → Bool) (a : Option Addr) (n c : Nat) (xs : List Int) (g : FuncId) (cap : Array Value) (w : World) (hr : Row w a 1 (xs.map encB)) (hn : xs.length = n) (hm : n ≤ 4611686018427387904) (hb : hasBody Tryd.prog g = true)
    (hf : ∀ x ∈ xs, ∀ w', E0 w w' → Calls Tryd.prog g (#[].toList ++ [Value.int .u8 x] ++ cap.toList).toArray w' fun e w'' => e = .returned (.bool (p x)) ∧ E0 w' w'') :
    Calls Tryd.prog 22 #[.slice a n c, .func (.func g) #[] cap] w fun e w' => e = .returned (.int .i64 (idxP p xs)) ∧ E0 w w' := by
  refine enterK Non 19 Tryd.func22 rfl rfl rfl fun K hK => ?_
  conv => whnf
  repeat (first | ((with_reducible refine NEXTK.normal ?_); conv => whnf) | ((with_reducible refine NEXTK.exit ?_); conv => whnf) | ((with_reducible refine NEXTK.ret ?_); conv => whnf) | ((with_reducible refine SEQ.plain ?_); conv => whnf) | ((with_reducible refine AR.ok ?_ ?_); exact ⟨by omega, by omega⟩; conv => whnf))
  refine LOOP.mk Nat (fun k => [(8, .v (.int .i64 k))]) (fun k _ => k ≤ n ∧ ∀ j y, j < k → xs[j]? = some y → p y = false) (fun k => n - k) 0 rfl ⟨rfl, trivial⟩ ⟨Nat.zero_le _, fun j y hj => by omega⟩ ?_
  rintro k wr ew ⟨hk, hno⟩
  conv => whnf
  repeat (first | ((with_reducible refine NEXTK.normal ?_); conv => whnf) | ((with_reducible refine NEXTK.exit ?_); conv => whnf) | ((with_reducible refine NEXTK.ret ?_); conv => whnf) | ((with_reducible refine SEQ.plain ?_); conv => whnf) | ((with_reducible refine AR.ok ?_ ?_); exact ⟨by omega, by omega⟩; conv => whnf))
  refine BIF.dec (fun hlt => ?_) (fun hlt => ?_)
  · have hlt' : k < xs.length := by omega
    have his := hr.isSome (by simp; omega)
    obtain ⟨x, hx⟩ : ∃ x, xs[k]? = some x := ⟨xs[k]'(by omega), by simp⟩
    repeat (any_goals (
      conv => whnf
      first
      | ((with_reducible refine OBL.mk ?_ (fun _ => ?_)); exact ⟨by first | omega | (dsimp only; omega), by first | omega | (dsimp only; omega), his⟩)
      | ((with_reducible refine ELD.at (k) hr ?_ ?_ ?_ (fun x' hx' => ?_)); exact mAddr_Non _; (first | rfl | omega); exact hlt'; obtain rfl : x = x' := by (rw [hx] at hx'; exact Option.some.inj hx'))
      | ((with_reducible refine callF (g := g) ?_ ?_); exact hb; refine ⟨_, hf x (List.mem_of_getElem? hx) _ ew, ?_⟩; intro w4 e4)
      | ((with_reducible refine BIF.dec ?_ ?_) <;> intro _)
      | ((with_reducible refine BIF.s ?_ ?_) <;> intro _)
      | (with_reducible refine NEXTK.normal ?_)
      | (with_reducible refine NEXTK.ret ?_)
      | (with_reducible refine NEXTK.exit ?_)
      | (with_reducible refine SEQ.plain ?_)
      | (with_reducible refine hK _ _ ?_)
      | ((with_reducible refine RUNL.agg (fun _ => ?_) ?_); (focus kernel_rfl))
      | (with_reducible refine RUNL.run ?_)
      | ((with_reducible refine AR.ok ?_ ?_); exact ⟨by first | omega | (dsimp only; omega), by first | omega | (dsimp only; omega)⟩)
      | (with_reducible refine AR.wr ?_)
      | ((with_reducible intro w3 e3); try have z3 := cutLe e3)
      | ((with_reducible intro h3); have h4 := Nat.le_of_lt h3; clear h4)))
    · intro hw
      refine ⟨?_, hw⟩
      rw [idxP_hit hx (by assumption) hno]; rfl
    · refine ⟨k + 1, rfl, ⟨rfl, trivial⟩, rfl, rfl, ⟨by omega, fun j y hj hy => ?_⟩, by omega⟩
      rcases Nat.lt_or_ge j k with h | h
      · exact hno j y h hy
      · obtain rfl : j = k := by omega
        rw [hx] at hy; cases hy; assumption
  · repeat (any_goals (
      conv => whnf
      first
      | ((with_reducible refine BIF.dec ?_ ?_) <;> intro _)
      | ((with_reducible refine BIF.s ?_ ?_) <;> intro _)
      | (with_reducible refine NEXTK.normal ?_)
      | (with_reducible refine NEXTK.ret ?_)
      | (with_reducible refine NEXTK.exit ?_)
      | (with_reducible refine SEQ.plain ?_)
      | (with_reducible refine hK _ _ ?_)
      | ((with_reducible refine RUNL.agg (fun _ => ?_) ?_); (focus kernel_rfl))
      | (with_reducible refine RUNL.run ?_)
      | ((with_reducible refine AR.ok ?_ ?_); exact ⟨by first | omega | (dsimp only; omega), by first | omega | (dsimp only; omega)⟩)
      | (with_reducible refine AR.wr ?_)
      | ((with_reducible intro w3 e3); try have z3 := cutLe e3)
      | ((with_reducible intro h3); have h4 := Nat.le_of_lt h3; clear h4)))
    intro hw
    refine ⟨?_, hw⟩
    rw [idxP_none (fun j y hy => hno j y (by
      have := (List.getElem?_eq_some_iff.1 hy).1
      omega) hy)]; rfl
theorem ContainsFuncB_c (p : Int → Bool) (a : Option Addr) (n c : Nat) (xs : List Int) (g : FuncId) (cap : Array Value) (w : World) (hr : Row w a 1 (xs.map encB)) (hn : xs.length = n) (hm : n ≤ 4611686018427387904) (hb : hasBody Tryd.prog g = true)
    (hf : ∀ x ∈ xs, ∀ w', E0 w w' → Calls Tryd.prog g (#[].toList ++ [Value.int .u8 x] ++ cap.toList).toArray w' fun e w'' => e = .returned (.bool (p x)) ∧ E0 w' w'') :
    Calls Tryd.prog 19 #[.slice a n c, .func (.func g) #[] cap] w fun e w' => e = .returned (.bool (xs.any p)) ∧ E0 w w' := by
  refine enterK Non 9 Tryd.func19 rfl rfl rfl fun K hK => ?_
  repeat (any_goals (
    conv => whnf
    first
    | ((with_reducible refine callF (g := 22) ?_ ?_); kernel_rfl; refine ⟨_, IndexFuncB_c p _ _ _ xs _ _ _ (by repeat (first | assumption | refine Row.e0 ?_ (by assumption))) hn hm hb hf, ?_⟩; intro w4 e4; have z4 := cutLe e4)
    | ((with_reducible refine BIF.dec ?_ ?_) <;> intro _)
    | ((with_reducible refine BIF.s ?_ ?_) <;> intro _)
    | (with_reducible refine NEXTK.normal ?_)
    | (with_reducible refine NEXTK.ret ?_)
    | (with_reducible refine NEXTK.exit ?_)
    | (with_reducible refine SEQ.plain ?_)
    | (with_reducible refine hK _ _ ?_)
    | ((with_reducible refine RUNL.agg (fun _ => ?_) ?_); (focus kernel_rfl))
    | (with_reducible refine RUNL.run ?_)
    | ((with_reducible refine AR.ok ?_ ?_); exact ⟨by first | omega | (dsimp only; omega), by first | omega | (dsimp only; omega)⟩)
    | (with_reducible refine AR.wr ?_)
    | ((with_reducible intro w3 e3); try have z3 := cutLe e3)
    | ((with_reducible intro h3); have h4 := Nat.le_of_lt h3; clear h4)))
  intro hw
  refine ⟨?_, hw⟩
  rw [← idxP_any]; rfl
theorem isWord_c (s : ByteArray) (w : World) : Calls Tryd.prog 17 #[.string s] w fun e w' => e = .returned (.bool (okW s)) ∧ E0 w w' := by
  refine enterK Non 17 Tryd.func17 rfl rfl rfl fun K hK => ?_
  have e : (!(bytesI s).any fun b => !inB b 97 122) = (bytesI s).all fun b => inB b 97 122 := by simp [List.all_eq_not_any_not]
  by_cases hlen : inB s.size 1 10 = true
  · have hl := inB_iff.1 hlen
    repeat (any_goals (
      conv => whnf
      first
      | ((with_reducible refine BIF.dec ?_ ?_) <;> intro _)
      | ((exfalso; omega))
      | ((with_reducible refine cvS (e := 5) ?_ ?_ ?_ ?_); kernel_rfl; kernel_rfl; kernel_rfl; intro w9 g9 c9 e9 r9)
      | ((with_reducible refine callF (g := 19) ?_ ?_); kernel_rfl; refine ⟨_, ContainsFuncB_c (fun b => !inB b 97 122) _ _ _ (bytesI s) _ _ _ (by repeat (first | assumption | refine Row.e0 ?_ (by assumption))) (bytesI_len s) (by omega) (by kernel_rfl) (fun x _ w' _ => isWord1_c x w'), ?_⟩; intro w4 e4; have z4 := cutLe e4)
      | ((with_reducible refine BIF.dec ?_ ?_) <;> intro _)
      | ((with_reducible refine BIF.s ?_ ?_) <;> intro _)
      | (with_reducible refine NEXTK.normal ?_)
      | (with_reducible refine NEXTK.ret ?_)
      | (with_reducible refine NEXTK.exit ?_)
      | (with_reducible refine SEQ.plain ?_)
      | (with_reducible refine hK _ _ ?_)
      | ((with_reducible refine RUNL.agg (fun _ => ?_) ?_); (focus kernel_rfl))
      | (with_reducible refine RUNL.run ?_)
      | ((with_reducible refine AR.ok ?_ ?_); exact ⟨by first | omega | (dsimp only; omega), by first | omega | (dsimp only; omega)⟩)
      | (with_reducible refine AR.wr ?_)
      | ((with_reducible intro w3 e3); try have z3 := cutLe e3)
      | ((with_reducible intro h3); have h4 := Nat.le_of_lt h3; clear h4)))
    all_goals
      intro hx
      refine ⟨?_, hx⟩
      unfold okW
      rw [hlen, ← e]
      first | rfl | simp_all [resV]
  · have hok : okW s = false := by unfold okW; simp [hlen]
    have hl : ¬ (1 ≤ (s.size : Int) ∧ (s.size : Int) ≤ 10) := fun h => hlen (inB_iff.2 h)
    repeat (any_goals (
      conv => whnf
      first
      | ((with_reducible refine BIF.dec ?_ ?_) <;> intro _)
      | ((exfalso; omega))
      | ((with_reducible refine BIF.dec ?_ ?_) <;> intro _)
      | ((with_reducible refine BIF.s ?_ ?_) <;> intro _)
      | (with_reducible refine NEXTK.normal ?_)
      | (with_reducible refine NEXTK.ret ?_)
      | (with_reducible refine NEXTK.exit ?_)
      | (with_reducible refine SEQ.plain ?_)
      | (with_reducible refine hK _ _ ?_)
      | ((with_reducible refine RUNL.agg (fun _ => ?_) ?_); (focus kernel_rfl))
      | (with_reducible refine RUNL.run ?_)
      | ((with_reducible refine AR.ok ?_ ?_); exact ⟨by first | omega | (dsimp only; omega), by first | omega | (dsimp only; omega)⟩)
      | (with_reducible refine AR.wr ?_)
      | ((with_reducible intro w3 e3); try have z3 := cutLe e3)
      | ((with_reducible intro h3); have h4 := Nat.le_of_lt h3; clear h4)))
    all_goals
      intro hx
      refine ⟨?_, hx⟩
      rw [hok]; rfl
theorem l2Word_c (s : ByteArray) (w : World) (hs : s.size ≤ 9223372036854775807) : Calls Tryd.prog 13 #[.string s] w fun e w' => e = .returned (.bool (okW s)) ∧ E0 w w' := by
  refine enterK Non 23 Tryd.func13 rfl rfl rfl fun K hK => ?_
  conv => whnf
  repeat (first | ((with_reducible refine NEXTK.normal ?_); conv => whnf) | ((with_reducible refine NEXTK.exit ?_); conv => whnf) | ((with_reducible refine NEXTK.ret ?_); conv => whnf) | ((with_reducible refine SEQ.plain ?_); conv => whnf) | ((with_reducible refine AR.ok ?_ ?_); exact ⟨by omega, by omega⟩; conv => whnf))
  refine LOOP.mk Nat (fun k => [(3, .v (.int .i64 k))]) (fun k _ => k ≤ s.size ∧ ∀ j : Nat, j < k → inB (bget s j) 97 122 = true) (fun k => s.size - k) 0 rfl ⟨rfl, trivial⟩ ⟨Nat.zero_le _, fun j hj => by omega⟩ ?_
  rintro k wr - ⟨hk, hno⟩
  conv => whnf
  repeat (first | ((with_reducible refine NEXTK.normal ?_); conv => whnf) | ((with_reducible refine NEXTK.exit ?_); conv => whnf) | ((with_reducible refine NEXTK.ret ?_); conv => whnf) | ((with_reducible refine SEQ.plain ?_); conv => whnf) | ((with_reducible refine AR.ok ?_ ?_); exact ⟨by omega, by omega⟩; conv => whnf))
  refine BIF.dec (fun hlt => ?_) (fun hlt => ?_)
  · have hlt' : k < s.size := by omega
    by_cases hin : inB (bget s k) 97 122 = true
    · have hin2 := inB_iff.1 hin
      repeat (any_goals (
        conv => whnf
        first
        | ((with_reducible refine OBL.mk ?_ (fun _ => ?_)); exact ⟨by omega, by omega⟩)
        | ((with_reducible refine BIF.dec ?_ ?_) <;> intro hdd)
        | ((exfalso; simp only [Int.toNat_natCast] at hdd; omega))
        | ((with_reducible refine BIF.dec ?_ ?_) <;> intro _)
        | ((with_reducible refine BIF.s ?_ ?_) <;> intro _)
        | (with_reducible refine NEXTK.normal ?_)
        | (with_reducible refine NEXTK.ret ?_)
        | (with_reducible refine NEXTK.exit ?_)
        | (with_reducible refine SEQ.plain ?_)
        | (with_reducible refine hK _ _ ?_)
        | ((with_reducible refine RUNL.agg (fun _ => ?_) ?_); (focus kernel_rfl))
        | (with_reducible refine RUNL.run ?_)
        | ((with_reducible refine AR.ok ?_ ?_); exact ⟨by first | omega | (dsimp only; omega), by first | omega | (dsimp only; omega)⟩)
        | (with_reducible refine AR.wr ?_)
        | ((with_reducible intro w3 e3); try have z3 := cutLe e3)
        | ((with_reducible intro h3); have h4 := Nat.le_of_lt h3; clear h4)))
      refine ⟨k + 1, rfl, ⟨rfl, trivial⟩, rfl, rfl, ⟨by omega, fun j hj => ?_⟩, by omega⟩
      rcases Nat.lt_or_ge j k with h | h
      · exact hno j h
      · obtain rfl : j = k := by omega
        exact hin
    · have hok : okW s = false := by
        unfold okW
        rw [Bool.and_eq_false_iff]
        right
        rw [List.all_eq_false]
        exact ⟨bget s k, List.mem_of_getElem? (bytesI_get s k hlt'), by simpa using hin⟩
      have hin2 : ¬ (97 ≤ bget s k ∧ bget s k ≤ 122) := fun h => hin (inB_iff.2 h)
      repeat (any_goals (
        conv => whnf
        first
        | ((with_reducible refine OBL.mk ?_ (fun _ => ?_)); exact ⟨by omega, by omega⟩)
        | ((with_reducible refine BIF.dec ?_ ?_) <;> intro hdd)
        | ((exfalso; simp only [Int.toNat_natCast] at *; omega))
        | ((with_reducible refine BIF.dec ?_ ?_) <;> intro _)
        | ((with_reducible refine BIF.s ?_ ?_) <;> intro _)
        | (with_reducible refine NEXTK.normal ?_)
        | (with_reducible refine NEXTK.ret ?_)
        | (with_reducible refine NEXTK.exit ?_)
        | (with_reducible refine SEQ.plain ?_)
        | (with_reducible refine hK _ _ ?_)
        | ((with_reducible refine RUNL.agg (fun _ => ?_) ?_); (focus kernel_rfl))
        | (with_reducible refine RUNL.run ?_)
        | ((with_reducible refine AR.ok ?_ ?_); exact ⟨by first | omega | (dsimp only; omega), by first | omega | (dsimp only; omega)⟩)
        | (with_reducible refine AR.wr ?_)
        | ((with_reducible intro w3 e3); try have z3 := cutLe e3)
        | ((with_reducible intro h3); have h4 := Nat.le_of_lt h3; clear h4)))
      all_goals
        intro hx
        refine ⟨?_, hx⟩
        rw [hok]; rfl
  · have hkn : k = s.size := by omega
    have hall : ((bytesI s).all fun b => inB b 97 122) = true := by
      rw [List.all_eq_true]
      intro b hb
      obtain ⟨j, hj⟩ := List.getElem?_of_mem hb
      have hjl : j < s.size := by
        have := (List.getElem?_eq_some_iff.1 hj).1
        rwa [bytesI_len] at this
      rw [bytesI_get s j hjl] at hj
      cases hj
      exact hno j (by omega)
    repeat (any_goals (
      conv => whnf
      first
      | ((with_reducible refine callF (g := 12) ?_ ?_); kernel_rfl; refine ⟨_, l1In_c _ _ _ _, ?_⟩; intro w4 e4; have z4 := cutLe e4)
      | ((with_reducible refine BIF.dec ?_ ?_) <;> intro _)
      | ((with_reducible refine BIF.s ?_ ?_) <;> intro _)
      | (with_reducible refine NEXTK.normal ?_)
      | (with_reducible refine NEXTK.ret ?_)
      | (with_reducible refine NEXTK.exit ?_)
      | (with_reducible refine SEQ.plain ?_)
      | (with_reducible refine hK _ _ ?_)
      | ((with_reducible refine RUNL.agg (fun _ => ?_) ?_); (focus kernel_rfl))
      | (with_reducible refine RUNL.run ?_)
      | ((with_reducible refine AR.ok ?_ ?_); exact ⟨by first | omega | (dsimp only; omega), by first | omega | (dsimp only; omega)⟩)
      | (with_reducible refine AR.wr ?_)
      | ((with_reducible intro w3 e3); try have z3 := cutLe e3)
      | ((with_reducible intro h3); have h4 := Nat.le_of_lt h3; clear h4)))
    intro hx
    refine ⟨?_, hx⟩
    unfold okW
    rw [hall, Bool.and_true]; rfl

structure Gft where
  fId : Int
  fGiver : ByteArray
  fSheets : Int
  fDay : Int
  fThanks : Int
  deriving DecidableEq
def encGft (x : Gft) : List Value := [.int .i64 x.fId, .string x.fGiver, .int .i64 x.fSheets, .int .i64 x.fDay, .int .i64 x.fThanks]
def zeroGft : List Value := [.int .i64 0, .string ByteArray.empty, .int .i64 0, .int .i64 0, .int .i64 0]
theorem encGft_len (x : Gft) : (encGft x).length = 5 := rfl
theorem encGft_one (x : Gft) : allOne (encGft x) = true := rfl
def fitGft (x : Gft) : Prop := (-9223372036854775808 ≤ x.fId ∧ x.fId ≤ 9223372036854775807) ∧ x.fGiver.size ≤ maxLen ∧ (-9223372036854775808 ≤ x.fSheets ∧ x.fSheets ≤ 9223372036854775807) ∧ (-9223372036854775808 ≤ x.fDay ∧ x.fDay ≤ 9223372036854775807) ∧ (-9223372036854775808 ≤ x.fThanks ∧ x.fThanks ≤ 9223372036854775807)
theorem toGft_c (x : Gft) (w : World) : Calls Tryd.prog 6 #[.agg (encGft x).toArray] w fun e w' => e = .returned (.agg (encGft x).toArray) ∧ E0 w w' := by
  refine enterK Non 20 Tryd.func6 rfl rfl rfl fun K hK => ?_
  repeat (any_goals (
    conv => whnf
    first
    | ((with_reducible refine BIF.dec ?_ ?_) <;> intro _)
    | ((with_reducible refine BIF.s ?_ ?_) <;> intro _)
    | (with_reducible refine NEXTK.normal ?_)
    | (with_reducible refine NEXTK.ret ?_)
    | (with_reducible refine NEXTK.exit ?_)
    | (with_reducible refine SEQ.plain ?_)
    | (with_reducible refine hK _ _ ?_)
    | ((with_reducible refine RUNL.agg (fun _ => ?_) ?_); (focus kernel_rfl))
    | (with_reducible refine RUNL.run ?_)
    | ((with_reducible refine AR.ok ?_ ?_); exact ⟨by first | omega | (dsimp only; omega), by first | omega | (dsimp only; omega)⟩)
    | (with_reducible refine AR.wr ?_)
    | ((with_reducible intro w3 e3); try have z3 := cutLe e3)
    | ((with_reducible intro h3); have h4 := Nat.le_of_lt h3; clear h4)))
  all_goals
    intro hx
    exact ⟨rfl, hx⟩
def encI (x : Int) : List Value := [.int .i64 x]
def zeroI : List Value := [.int .i64 0]
def fitI (x : Int) : Prop := -9223372036854775808 ≤ x ∧ x ≤ 9223372036854775807
theorem encI_one (x : Int) : allOne (encI x) = true := rfl
def mkI (k : Int) (i : Nat) : Int := k + 1 * i
theorem own : ownKnob Tryd.prog.godebug = none := by kernel_rfl
theorem laidOut : laidOutB Tryd.prog = true := by kernel_rfl
theorem cellsGft {H : Type} {en : TypeId × Value → H} {w : World} {base : Nat} {spare : Nat → Bool} {held : Bool} (n : Nat) (cs : List Value) (x : DataW H × List MemPlace) (hl : cs.length = 5)
    (h : DataW.trod en Tryd.prog w base spare held n 23 cs = some x) : ∃ y : Gft, cs = encGft y ∧ fitGft y := by
  obtain ⟨-, hf⟩ := open_cells Tryd.underlying23 (by kernel_rfl) (by kernel_rfl) h
  match cs, hl with
  | [c0, c1, c2, c3, c4], _ =>
    obtain ⟨v0, y0, n0, e0, t0⟩ := hf 0 _ rfl
    simp at e0
    subst e0
    obtain ⟨z0, q0, -, g0⟩ := DataW.trod_int Tryd.underlying3 t0
    simp at q0
    subst q0
    obtain ⟨v1, y1, n1, e1, t1⟩ := hf 1 _ rfl
    simp at e1
    subst e1
    obtain ⟨z1, q1, -, g1⟩ := DataW.trod_string Tryd.underlying9 t1
    simp at q1
    subst q1
    obtain ⟨v2, y2, n2, e2, t2⟩ := hf 2 _ rfl
    simp at e2
    subst e2
    obtain ⟨z2, q2, -, g2⟩ := DataW.trod_int Tryd.underlying3 t2
    simp at q2
    subst q2
    obtain ⟨v3, y3, n3, e3, t3⟩ := hf 3 _ rfl
    simp at e3
    subst e3
    obtain ⟨z3, q3, -, g3⟩ := DataW.trod_int Tryd.underlying3 t3
    simp at q3
    subst q3
    obtain ⟨v4, y4, n4, e4, t4⟩ := hf 4 _ rfl
    simp at e4
    subst e4
    obtain ⟨z4, q4, -, g4⟩ := DataW.trod_int Tryd.underlying3 t4
    simp at q4
    subst q4
    exact ⟨⟨z0, z1, z2, z3, z4⟩, rfl, wf64 g0, g1, wf64 g2, wf64 g3, wf64 g4⟩
theorem szGft_c (x : Gft) (l : Int) (w : World) (hl : 0 ≤ l ∧ l ≤ 1048576) (hs : x.fGiver.size ≤ 9223372036854775807) :
    Calls Tryd.prog 4 #[.agg (encGft x).toArray, .int .i64 l] w fun e w' => e = .returned (.int .i64 (if (x.fGiver.size : Int) ≤ l then l - x.fGiver.size else -1)) ∧ E0 w w' := by
  refine enterK Non 13 Tryd.func4 rfl rfl rfl fun K hK => ?_
  repeat (any_goals (
    conv => whnf
    first
    | ((with_reducible refine BIF.dec ?_ ?_) <;> intro _)
    | ((with_reducible refine BIF.s ?_ ?_) <;> intro _)
    | (with_reducible refine NEXTK.normal ?_)
    | (with_reducible refine NEXTK.ret ?_)
    | (with_reducible refine NEXTK.exit ?_)
    | (with_reducible refine SEQ.plain ?_)
    | (with_reducible refine hK _ _ ?_)
    | ((with_reducible refine RUNL.agg (fun _ => ?_) ?_); (focus kernel_rfl))
    | (with_reducible refine RUNL.run ?_)
    | ((with_reducible refine AR.ok ?_ ?_); exact ⟨by first | omega | (dsimp only; omega), by first | omega | (dsimp only; omega)⟩)
    | (with_reducible refine AR.wr ?_)
    | ((with_reducible intro w3 e3); try have z3 := cutLe e3)
    | ((with_reducible intro h3); have h4 := Nat.le_of_lt h3; clear h4)))
  all_goals
    intro hx
    refine ⟨?_, hx⟩
    simp only [resV]
    first
    | rw [if_pos (by omega)]
    | rw [if_neg (by omega)]

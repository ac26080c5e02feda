/- What of a job is scanned. -/
import Derived.Test.YtlnihghpfikieaaDoorRows
import Derived.Test.YtlnihghpfikieaaDoorScan
namespace Go.Proofs.YtlnihghpfikieaaDoor
open Go Go.X Go.Proofs Go.ChangeShapes Go.WideShapes Go.ChangeAt Go.RowKit
open Go.ChangeMaps (open_string shut_string)
set_option maxHeartbeats 1000000
set_option maxRecDepth 20000
set_option linter.unusedVariables false
set_option linter.unusedSimpArgs false
theorem IndexFuncI_c (p : Int → Bool) (a : Option Addr) (n c : Nat) (xs : List Int) (g : FuncId) (cap : Array Value) (w : World) (hr : Row w a 1 (xs.map encI)) (hn : xs.length = n) (hm : n ≤ 4611686018427387904) (hb : hasBody Tryd.prog g = true)
    (hf : ∀ x ∈ xs, ∀ w', E0 w w' → Calls Tryd.prog g (#[].toList ++ [Value.int .i64 x] ++ cap.toList).toArray w' fun e w'' => e = .returned (.bool (p x)) ∧ E0 w' w'') :
    Calls Tryd.prog 26 #[.slice a n c, .func (.func g) #[] cap] w fun e w' => e = .returned (.int .i64 (idxP p xs)) ∧ E0 w w' := by
  refine enterK Non 19 Tryd.func26 rfl rfl rfl fun K hK => ?_
  conv => whnf
  repeat (first | ((with_reducible refine NEXTK.normal ?_); conv => whnf) | ((with_reducible refine NEXTK.exit ?_); conv => whnf) | ((with_reducible refine NEXTK.ret ?_); conv => whnf) | ((with_reducible refine SEQ.plain ?_); conv => whnf) | ((with_reducible refine AR.ok ?_ ?_); exact ⟨by omega, by omega⟩; conv => whnf))
  refine LOOP.mk Nat (fun k => [(8, .v (.int .i64 k))]) (fun k _ => k ≤ n ∧ ∀ j y, j < k → xs[j]? = some y → p y = false) (fun k => n - k) 0 rfl ⟨rfl, trivial⟩ ⟨Nat.zero_le _, fun j y hj => by omega⟩ ?_
  rintro k wr ew ⟨hk, hno⟩
  conv => whnf
  repeat (first | ((with_reducible refine NEXTK.normal ?_); conv => whnf) | ((with_reducible refine NEXTK.exit ?_); conv => whnf) | ((with_reducible refine NEXTK.ret ?_); conv => whnf) | ((with_reducible refine SEQ.plain ?_); conv => whnf) | ((with_reducible refine AR.ok ?_ ?_); exact ⟨by omega, by omega⟩; conv => whnf))
  refine BIF.dec (fun hlt => ?_) (fun hlt => ?_)
  · have hlt' : k < xs.length := by omega
    have his := hr.isSome (by simp; omega)
    obtain ⟨x, hx⟩ : ∃ x, xs[k]? = some x := ⟨xs[k]'(by omega), by simp⟩
    repeat (any_goals (
      conv => whnf
      first
      | ((with_reducible refine OBL.mk ?_ (fun _ => ?_)); exact ⟨by first | omega | (dsimp only; omega), by first | omega | (dsimp only; omega), his⟩)
      | ((with_reducible refine ELD.at (k) hr ?_ ?_ ?_ (fun x' hx' => ?_)); exact mAddr_Non _; (first | rfl | omega); exact hlt'; obtain rfl : x = x' := by (rw [hx] at hx'; exact Option.some.inj hx'))
      | ((with_reducible refine callF (g := g) ?_ ?_); exact hb; refine ⟨_, hf x (List.mem_of_getElem? hx) _ ew, ?_⟩; intro w4 e4)
      | ((with_reducible refine BIF.dec ?_ ?_) <;> intro _)
      | ((with_reducible refine BIF.s ?_ ?_) <;> intro _)
      | (with_reducible refine NEXTK.normal ?_)
      | (with_reducible refine NEXTK.ret ?_)
      | (with_reducible refine NEXTK.exit ?_)
      | (with_reducible refine SEQ.plain ?_)
      | (with_reducible refine hK _ _ ?_)
      | ((with_reducible refine RUNL.agg (fun _ => ?_) ?_); (focus kernel_rfl))
      | (with_reducible refine RUNL.run ?_)
      | ((with_reducible refine AR.ok ?_ ?_); exact ⟨by first | omega | (dsimp only; omega), by first | omega | (dsimp only; omega)⟩)
      | (with_reducible refine AR.wr ?_)
      | ((with_reducible intro w3 e3); try have z3 := cutLe e3)
      | ((with_reducible intro h3); have h4 := Nat.le_of_lt h3; clear h4)))
    · intro hw
      refine ⟨?_, hw⟩
      rw [idxP_hit hx (by assumption) hno]; rfl
    · refine ⟨k + 1, rfl, ⟨rfl, trivial⟩, rfl, rfl, ⟨by omega, fun j y hj hy => ?_⟩, by omega⟩
      rcases Nat.lt_or_ge j k with h | h
      · exact hno j y h hy
      · obtain rfl : j = k := by omega
        rw [hx] at hy; cases hy; assumption
  · repeat (any_goals (
      conv => whnf
      first
      | ((with_reducible refine BIF.dec ?_ ?_) <;> intro _)
      | ((with_reducible refine BIF.s ?_ ?_) <;> intro _)
      | (with_reducible refine NEXTK.normal ?_)
      | (with_reducible refine NEXTK.ret ?_)
      | (with_reducible refine NEXTK.exit ?_)
      | (with_reducible refine SEQ.plain ?_)
      | (with_reducible refine hK _ _ ?_)
      | ((with_reducible refine RUNL.agg (fun _ => ?_) ?_); (focus kernel_rfl))
      | (with_reducible refine RUNL.run ?_)
      | ((with_reducible refine AR.ok ?_ ?_); exact ⟨by first | omega | (dsimp only; omega), by first | omega | (dsimp only; omega)⟩)
      | (with_reducible refine AR.wr ?_)
      | ((with_reducible intro w3 e3); try have z3 := cutLe e3)
      | ((with_reducible intro h3); have h4 := Nat.le_of_lt h3; clear h4)))
    intro hw
    refine ⟨?_, hw⟩
    rw [idxP_none (fun j y hy => hno j y (by
      have := (List.getElem?_eq_some_iff.1 hy).1
      omega) hy)]; rfl
theorem ContainsFuncI_c (p : Int → Bool) (a : Option Addr) (n c : Nat) (xs : List Int) (g : FuncId) (cap : Array Value) (w : World) (hr : Row w a 1 (xs.map encI)) (hn : xs.length = n) (hm : n ≤ 4611686018427387904) (hb : hasBody Tryd.prog g = true)
    (hf : ∀ x ∈ xs, ∀ w', E0 w w' → Calls Tryd.prog g (#[].toList ++ [Value.int .i64 x] ++ cap.toList).toArray w' fun e w'' => e = .returned (.bool (p x)) ∧ E0 w' w'') :
    Calls Tryd.prog 21 #[.slice a n c, .func (.func g) #[] cap] w fun e w' => e = .returned (.bool (xs.any p)) ∧ E0 w w' := by
  refine enterK Non 9 Tryd.func21 rfl rfl rfl fun K hK => ?_
  repeat (any_goals (
    conv => whnf
    first
    | ((with_reducible refine callF (g := 26) ?_ ?_); kernel_rfl; refine ⟨_, IndexFuncI_c p _ _ _ xs _ _ _ (by repeat (first | assumption | refine Row.e0 ?_ (by assumption))) hn hm hb hf, ?_⟩; intro w4 e4; have z4 := cutLe e4)
    | ((with_reducible refine BIF.dec ?_ ?_) <;> intro _)
    | ((with_reducible refine BIF.s ?_ ?_) <;> intro _)
    | (with_reducible refine NEXTK.normal ?_)
    | (with_reducible refine NEXTK.ret ?_)
    | (with_reducible refine NEXTK.exit ?_)
    | (with_reducible refine SEQ.plain ?_)
    | (with_reducible refine hK _ _ ?_)
    | ((with_reducible refine RUNL.agg (fun _ => ?_) ?_); (focus kernel_rfl))
    | (with_reducible refine RUNL.run ?_)
    | ((with_reducible refine AR.ok ?_ ?_); exact ⟨by first | omega | (dsimp only; omega), by first | omega | (dsimp only; omega)⟩)
    | (with_reducible refine AR.wr ?_)
    | ((with_reducible intro w3 e3); try have z3 := cutLe e3)
    | ((with_reducible intro h3); have h4 := Nat.le_of_lt h3; clear h4)))
  intro hw
  refine ⟨?_, hw⟩
  rw [← idxP_any]; rfl
def tkI (xs : List Int) : Nat := xs.findIdx (fun x => x == 0)
def wsI (xs : List Int) : Int := xs.foldl (fun s x => IntKind.i64.wrap (s + x)) 0
theorem wsI_take {xs : List Int} {k : Nat} {x : Int} (h : xs[k]? = some x) : wsI (xs.take (k + 1)) = IntKind.i64.wrap (wsI (xs.take k) + x) := by
  unfold wsI
  rw [List.take_add_one, h, List.foldl_append]; rfl
theorem tkI_le (xs : List Int) : tkI xs ≤ xs.length := List.findIdx_le_length
theorem tkI_hit {xs : List Int} {k : Nat} (hx : xs[k]? = some 0) (hno : ∀ j y, j < k → xs[j]? = some y → y ≠ 0) : tkI xs = k := by
  have hk : k < xs.length := (List.getElem?_eq_some_iff.1 hx).1
  unfold tkI
  rw [List.findIdx_eq hk]
  refine ⟨by rw [(List.getElem?_eq_some_iff.1 hx).2]; rfl, fun j hj => ?_⟩
  have := hno j (xs[j]'(by omega)) hj (by simp)
  simpa using this
theorem tkI_none {xs : List Int} (hno : ∀ (j : Nat) y, xs[j]? = some y → y ≠ 0) : tkI xs = xs.length := by
  unfold tkI
  rw [List.findIdx_eq_length]
  intro x hx
  obtain ⟨j, hj⟩ := List.getElem?_of_mem hx
  simpa using hno j x hj
theorem tkI_idx (xs : List Int) : idxP (fun x => x == 0) xs = if tkI xs < xs.length then (tkI xs : Int) else -1 := by
  rcases idxP_spec (fun x : Int => x == 0) xs with ⟨h, hno⟩ | ⟨k, x, h, hk, hx, hp, hno⟩
  · rw [tkI_none (fun j y hy => by have := hno y (List.mem_of_getElem? hy); simpa using this), if_neg (by omega), h]
  · have hx0 : x = 0 := by simpa using hp
    subst hx0
    rw [tkI_hit hx (fun j y hj hy => by have := hno j y hj hy; simpa using this), if_pos hk, h]
def tailZ (xs : List Int) : Bool := !((xs.drop (tkI xs)).any fun x => !(x == 0))
theorem wrap0 (s : Int) : IntKind.i64.wrap (IntKind.i64.wrap s + 0) = IntKind.i64.wrap s := by
  rw [Int.add_zero]
  simp only [IntKind.wrap, IntKind.bits, IntKind.signed, Bool.true_and, decide_eq_true_eq, Int.reducePow, Nat.reduceSub, ge_iff_le]
  split <;> split <;> omega
theorem wsI_zeros (ys : List Int) : (∀ y ∈ ys, y = 0) → ∀ s : Int, ys.foldl (fun s x => IntKind.i64.wrap (s + x)) (IntKind.i64.wrap s) = IntKind.i64.wrap s := by
  induction ys with
  | nil => intro _ s; rfl
  | cons y t ih =>
    intro h s
    have hy := h y (by simp)
    subst hy
    rw [List.foldl_cons, wrap0]
    exact ih (fun z hz => h z (by simp [hz])) s
theorem wsI_wrapped (xs : List Int) : ∃ s, wsI xs = IntKind.i64.wrap s := by
  rcases List.eq_nil_or_concat xs with rfl | ⟨ys, y, rfl⟩
  · exact ⟨0, by simp [wsI]; decide⟩
  · exact ⟨wsI ys + y, by simp [wsI]⟩
theorem wsI_tail {xs : List Int} (h : tailZ xs = true) : wsI (xs.take (tkI xs)) = wsI xs := by
  have h0 : wsI xs = (xs.drop (tkI xs)).foldl (fun s x => IntKind.i64.wrap (s + x)) (wsI (xs.take (tkI xs))) := by
    unfold wsI
    rw [← List.foldl_append, List.take_append_drop]
  obtain ⟨s, hs⟩ := wsI_wrapped (xs.take (tkI xs))
  rw [h0, hs, wsI_zeros _ (fun y hy => ?_)]
  simp only [tailZ, Bool.not_eq_true', List.any_eq_false] at h
  simpa using h y hy
theorem l29Taken_c (a : Option Addr) (n c : Nat) (xs : List Int) (w : World) (hr : Row w a 1 (xs.map encI)) (hn : xs.length = n) (hm : n ≤ 4611686018427387904) :
    Calls Tryd.prog 17 #[.slice a n c] w fun e w' => e = .returned (.tuple #[.int .i64 (tkI xs), .int .i64 (wsI (xs.take (tkI xs)))]) ∧ E0 w w' := by
  refine enterK Non 27 Tryd.func17 rfl rfl rfl fun K hK => ?_
  conv => whnf
  repeat (first | ((with_reducible refine NEXTK.normal ?_); conv => whnf) | ((with_reducible refine NEXTK.exit ?_); conv => whnf) | ((with_reducible refine NEXTK.ret ?_); conv => whnf) | ((with_reducible refine SEQ.plain ?_); conv => whnf) | ((with_reducible refine AR.ok ?_ ?_); exact ⟨by omega, by omega⟩; conv => whnf))
  refine LOOP.mk (Nat × Int) (fun g => [(4, .v (.int .i64 g.1)), (5, .v (.int .i64 g.2))]) (fun g _ => g.1 ≤ n ∧ g.2 = wsI (xs.take g.1) ∧ ∀ j y, j < g.1 → xs[j]? = some y → y ≠ 0) (fun g => n - g.1) (0, 0) rfl ⟨rfl, rfl, trivial⟩ ⟨Nat.zero_le _, by simp [wsI], fun j y h => absurd h (by simp)⟩ ?_
  rintro ⟨j, s⟩ wr - ⟨hj, hs', hno⟩
  simp only at hj hs' hno
  rcases Nat.lt_or_ge j xs.length with hlt' | hge
  · have his := hr.isSome (by simp; omega)
    obtain ⟨x, hx⟩ : ∃ x, xs[j]? = some x := ⟨xs[j]'(by omega), by simp⟩
    have ht := wsI_take hx
    by_cases hx0 : x = 0
    · have htk : tkI xs = j := tkI_hit (hx0 ▸ hx) hno
      repeat (any_goals (
        conv => whnf
        first
        | ((with_reducible refine OBL.mk ?_ (fun _ => ?_)); exact ⟨by first | omega | (dsimp only; omega), by first | omega | (dsimp only; omega), his⟩)
        | ((with_reducible refine ELD.at (j) hr ?_ ?_ ?_ (fun x' hx' => ?_)); exact mAddr_Non _; (first | rfl | omega); exact hlt'; obtain rfl : x = x' := by (rw [hx] at hx'; exact Option.some.inj hx'))
        | ((exfalso; omega))
        | ((exfalso; clear hK; simp_all; done))
        | ((with_reducible refine BIF.dec ?_ ?_) <;> intro _)
        | ((with_reducible refine BIF.s ?_ ?_) <;> intro _)
        | (with_reducible refine NEXTK.normal ?_)
        | (with_reducible refine NEXTK.ret ?_)
        | (with_reducible refine NEXTK.exit ?_)
        | (with_reducible refine SEQ.plain ?_)
        | (with_reducible refine hK _ _ ?_)
        | ((with_reducible refine RUNL.agg (fun _ => ?_) ?_); (focus kernel_rfl))
        | (with_reducible refine RUNL.run ?_)
        | ((with_reducible refine AR.ok ?_ ?_); exact ⟨by first | omega | (dsimp only; omega), by first | omega | (dsimp only; omega)⟩)
        | (with_reducible refine AR.wr ?_)
        | ((with_reducible intro w3 e3); try have z3 := cutLe e3)
        | ((with_reducible intro h3); have h4 := Nat.le_of_lt h3; clear h4)))
      all_goals
        intro hx'
        refine ⟨?_, hx'⟩
        rw [htk, ← hs']; rfl
    · repeat (any_goals (
        conv => whnf
        first
        | ((with_reducible refine OBL.mk ?_ (fun _ => ?_)); exact ⟨by first | omega | (dsimp only; omega), by first | omega | (dsimp only; omega), his⟩)
        | ((with_reducible refine ELD.at (j) hr ?_ ?_ ?_ (fun x' hx' => ?_)); exact mAddr_Non _; (first | rfl | omega); exact hlt'; obtain rfl : x = x' := by (rw [hx] at hx'; exact Option.some.inj hx'))
        | ((exfalso; omega))
        | ((exfalso; clear hK; simp_all; done))
        | ((with_reducible refine BIF.dec ?_ ?_) <;> intro _)
        | ((with_reducible refine BIF.s ?_ ?_) <;> intro _)
        | (with_reducible refine NEXTK.normal ?_)
        | (with_reducible refine NEXTK.ret ?_)
        | (with_reducible refine NEXTK.exit ?_)
        | (with_reducible refine SEQ.plain ?_)
        | (with_reducible refine hK _ _ ?_)
        | ((with_reducible refine RUNL.agg (fun _ => ?_) ?_); (focus kernel_rfl))
        | (with_reducible refine RUNL.run ?_)
        | ((with_reducible refine AR.ok ?_ ?_); exact ⟨by first | omega | (dsimp only; omega), by first | omega | (dsimp only; omega)⟩)
        | (with_reducible refine AR.wr ?_)
        | ((with_reducible intro w3 e3); try have z3 := cutLe e3)
        | ((with_reducible intro h3); have h4 := Nat.le_of_lt h3; clear h4)))
      all_goals
        refine ⟨(j + 1, IntKind.i64.wrap (s + x)), rfl, ⟨rfl, rfl, trivial⟩, rfl, rfl, ⟨by simp; omega, ?_, fun q y hq hy => ?_⟩, by simp; omega⟩
        · simp only [ht, hs']
        · rcases Nat.lt_or_ge q j with h | h
          · exact hno q y h hy
          · obtain rfl : q = j := by simp only at hq; omega
            rw [hx] at hy; cases hy; exact hx0
  · have hkj : j = xs.length := by omega
    have htk : tkI xs = j := by
      rw [hkj]
      exact tkI_none fun q y hy => hno q y (by have := (List.getElem?_eq_some_iff.1 hy).1; omega) hy
    repeat (any_goals (
      conv => whnf
      first
      | ((exfalso; omega))
      | ((exfalso; clear hK; simp_all; done))
      | ((with_reducible refine BIF.dec ?_ ?_) <;> intro _)
      | ((with_reducible refine BIF.s ?_ ?_) <;> intro _)
      | (with_reducible refine NEXTK.normal ?_)
      | (with_reducible refine NEXTK.ret ?_)
      | (with_reducible refine NEXTK.exit ?_)
      | (with_reducible refine SEQ.plain ?_)
      | (with_reducible refine hK _ _ ?_)
      | ((with_reducible refine RUNL.agg (fun _ => ?_) ?_); (focus kernel_rfl))
      | (with_reducible refine RUNL.run ?_)
      | ((with_reducible refine AR.ok ?_ ?_); exact ⟨by first | omega | (dsimp only; omega), by first | omega | (dsimp only; omega)⟩)
      | (with_reducible refine AR.wr ?_)
      | ((with_reducible intro w3 e3); try have z3 := cutLe e3)
      | ((with_reducible intro h3); have h4 := Nat.le_of_lt h3; clear h4)))
    all_goals
      intro hx'
      refine ⟨?_, hx'⟩
      rw [htk, ← hs']; rfl
theorem sum_c (a : Option Addr) (n c : Nat) (xs : List Int) (w : World) (hr : Row w a 1 (xs.map encI)) (hn : xs.length = n) (hm : n ≤ 4611686018427387904) :
    Calls Tryd.prog 20 #[.slice a n c] w fun e w' => e = .returned (.int .i64 (wsI xs)) ∧ E0 w w' := by
  refine enterK Non 17 Tryd.func20 rfl rfl rfl fun K hK => ?_
  conv => whnf
  repeat (first | ((with_reducible refine NEXTK.normal ?_); conv => whnf) | ((with_reducible refine NEXTK.exit ?_); conv => whnf) | ((with_reducible refine NEXTK.ret ?_); conv => whnf) | ((with_reducible refine SEQ.plain ?_); conv => whnf) | ((with_reducible refine AR.ok ?_ ?_); exact ⟨by omega, by omega⟩; conv => whnf))
  refine LOOP.mk (Nat × Int) (fun g => [(8, .v (.int .i64 g.1)), (3, .v (.int .i64 g.2))]) (fun g _ => g.1 ≤ n ∧ g.2 = wsI (xs.take g.1)) (fun g => n - g.1) (0, 0) rfl ⟨rfl, rfl, trivial⟩ ⟨Nat.zero_le _, by simp [wsI]⟩ ?_
  rintro ⟨j, s⟩ wr - ⟨hj, hs'⟩
  simp only at hj hs'
  conv => whnf
  repeat (first | ((with_reducible refine NEXTK.normal ?_); conv => whnf) | ((with_reducible refine NEXTK.exit ?_); conv => whnf) | ((with_reducible refine NEXTK.ret ?_); conv => whnf) | ((with_reducible refine SEQ.plain ?_); conv => whnf) | ((with_reducible refine AR.ok ?_ ?_); exact ⟨by omega, by omega⟩; conv => whnf))
  refine BIF.dec (fun hlt => ?_) (fun hlt => ?_)
  · have hlt' : j < xs.length := by omega
    have his := hr.isSome (by simp; omega)
    obtain ⟨x, hx⟩ : ∃ x, xs[j]? = some x := ⟨xs[j]'(by omega), by simp⟩
    have ht := wsI_take hx
    repeat (any_goals (
      conv => whnf
      first
      | ((with_reducible refine OBL.mk ?_ (fun _ => ?_)); exact ⟨by first | omega | (dsimp only; omega), by first | omega | (dsimp only; omega), his⟩)
      | ((with_reducible refine ELD.at (j) hr ?_ ?_ ?_ (fun x' hx' => ?_)); exact mAddr_Non _; (first | rfl | omega); exact hlt'; obtain rfl : x = x' := by (rw [hx] at hx'; exact Option.some.inj hx'))
      | ((with_reducible refine BIF.dec ?_ ?_) <;> intro _)
      | ((with_reducible refine BIF.s ?_ ?_) <;> intro _)
      | (with_reducible refine NEXTK.normal ?_)
      | (with_reducible refine NEXTK.ret ?_)
      | (with_reducible refine NEXTK.exit ?_)
      | (with_reducible refine SEQ.plain ?_)
      | (with_reducible refine hK _ _ ?_)
      | ((with_reducible refine RUNL.agg (fun _ => ?_) ?_); (focus kernel_rfl))
      | (with_reducible refine RUNL.run ?_)
      | ((with_reducible refine AR.ok ?_ ?_); exact ⟨by first | omega | (dsimp only; omega), by first | omega | (dsimp only; omega)⟩)
      | (with_reducible refine AR.wr ?_)
      | ((with_reducible intro w3 e3); try have z3 := cutLe e3)
      | ((with_reducible intro h3); have h4 := Nat.le_of_lt h3; clear h4)))
    all_goals
      refine ⟨(j + 1, IntKind.i64.wrap (s + x)), rfl, ⟨rfl, rfl, trivial⟩, rfl, rfl, ⟨by simp; omega, ?_⟩, by simp; omega⟩
      simp only [ht, hs']
  · have hkj : j = xs.length := by omega
    repeat (any_goals (
      conv => whnf
      first
      | ((with_reducible refine BIF.dec ?_ ?_) <;> intro _)
      | ((with_reducible refine BIF.s ?_ ?_) <;> intro _)
      | (with_reducible refine NEXTK.normal ?_)
      | (with_reducible refine NEXTK.ret ?_)
      | (with_reducible refine NEXTK.exit ?_)
      | (with_reducible refine SEQ.plain ?_)
      | (with_reducible refine hK _ _ ?_)
      | ((with_reducible refine RUNL.agg (fun _ => ?_) ?_); (focus kernel_rfl))
      | (with_reducible refine RUNL.run ?_)
      | ((with_reducible refine AR.ok ?_ ?_); exact ⟨by first | omega | (dsimp only; omega), by first | omega | (dsimp only; omega)⟩)
      | (with_reducible refine AR.wr ?_)
      | ((with_reducible intro w3 e3); try have z3 := cutLe e3)
      | ((with_reducible intro h3); have h4 := Nat.le_of_lt h3; clear h4)))
    intro hx'
    refine ⟨?_, hx'⟩
    rw [hkj, List.take_length] at hs'
    rw [← hs']; rfl
theorem IndexI_c (v : Int) (a : Option Addr) (n c : Nat) (xs : List Int) (w : World) (hr : Row w a 1 (xs.map encI)) (hn : xs.length = n) (hm : n ≤ 4611686018427387904) :
    Calls Tryd.prog 24 #[.slice a n c, .int .i64 v] w fun e w' => e = .returned (.int .i64 (idxP (fun x => x == v) xs)) ∧ E0 w w' := by
  refine enterK Non 19 Tryd.func24 rfl rfl rfl fun K hK => ?_
  conv => whnf
  repeat (first | ((with_reducible refine NEXTK.normal ?_); conv => whnf) | ((with_reducible refine NEXTK.exit ?_); conv => whnf) | ((with_reducible refine NEXTK.ret ?_); conv => whnf) | ((with_reducible refine SEQ.plain ?_); conv => whnf) | ((with_reducible refine AR.ok ?_ ?_); exact ⟨by omega, by omega⟩; conv => whnf))
  refine LOOP.mk Nat (fun k => [(8, .v (.int .i64 k))]) (fun k _ => k ≤ n ∧ ∀ j y, j < k → xs[j]? = some y → (y == v) = false) (fun k => n - k) 0 rfl ⟨rfl, trivial⟩ ⟨Nat.zero_le _, fun j y hj => by omega⟩ ?_
  rintro k wr ew ⟨hk, hno⟩
  conv => whnf
  repeat (first | ((with_reducible refine NEXTK.normal ?_); conv => whnf) | ((with_reducible refine NEXTK.exit ?_); conv => whnf) | ((with_reducible refine NEXTK.ret ?_); conv => whnf) | ((with_reducible refine SEQ.plain ?_); conv => whnf) | ((with_reducible refine AR.ok ?_ ?_); exact ⟨by omega, by omega⟩; conv => whnf))
  refine BIF.dec (fun hlt => ?_) (fun hlt => ?_)
  · have hlt' : k < xs.length := by omega
    have his := hr.isSome (by simp; omega)
    obtain ⟨x, hx⟩ : ∃ x, xs[k]? = some x := ⟨xs[k]'(by omega), by simp⟩
    by_cases hxv : x = v
    · repeat (any_goals (
        conv => whnf
        first
        | ((with_reducible refine OBL.mk ?_ (fun _ => ?_)); exact ⟨by first | omega | (dsimp only; omega), by first | omega | (dsimp only; omega), his⟩)
        | ((with_reducible refine ELD.at (k) hr ?_ ?_ ?_ (fun x' hx' => ?_)); exact mAddr_Non _; (first | rfl | omega); exact hlt'; obtain rfl : x = x' := by (rw [hx] at hx'; exact Option.some.inj hx'))
        | ((exfalso; omega))
        | ((exfalso; clear hK; simp_all; done))
        | ((with_reducible refine BIF.dec ?_ ?_) <;> intro _)
        | ((with_reducible refine BIF.s ?_ ?_) <;> intro _)
        | (with_reducible refine NEXTK.normal ?_)
        | (with_reducible refine NEXTK.ret ?_)
        | (with_reducible refine NEXTK.exit ?_)
        | (with_reducible refine SEQ.plain ?_)
        | (with_reducible refine hK _ _ ?_)
        | ((with_reducible refine RUNL.agg (fun _ => ?_) ?_); (focus kernel_rfl))
        | (with_reducible refine RUNL.run ?_)
        | ((with_reducible refine AR.ok ?_ ?_); exact ⟨by first | omega | (dsimp only; omega), by first | omega | (dsimp only; omega)⟩)
        | (with_reducible refine AR.wr ?_)
        | ((with_reducible intro w3 e3); try have z3 := cutLe e3)
        | ((with_reducible intro h3); have h4 := Nat.le_of_lt h3; clear h4)))
      intro hw
      refine ⟨?_, hw⟩
      rw [idxP_hit hx (by simpa using hxv) hno]; rfl
    · repeat (any_goals (
        conv => whnf
        first
        | ((with_reducible refine OBL.mk ?_ (fun _ => ?_)); exact ⟨by first | omega | (dsimp only; omega), by first | omega | (dsimp only; omega), his⟩)
        | ((with_reducible refine ELD.at (k) hr ?_ ?_ ?_ (fun x' hx' => ?_)); exact mAddr_Non _; (first | rfl | omega); exact hlt'; obtain rfl : x = x' := by (rw [hx] at hx'; exact Option.some.inj hx'))
        | ((exfalso; omega))
        | ((exfalso; clear hK; simp_all; done))
        | ((with_reducible refine BIF.dec ?_ ?_) <;> intro _)
        | ((with_reducible refine BIF.s ?_ ?_) <;> intro _)
        | (with_reducible refine NEXTK.normal ?_)
        | (with_reducible refine NEXTK.ret ?_)
        | (with_reducible refine NEXTK.exit ?_)
        | (with_reducible refine SEQ.plain ?_)
        | (with_reducible refine hK _ _ ?_)
        | ((with_reducible refine RUNL.agg (fun _ => ?_) ?_); (focus kernel_rfl))
        | (with_reducible refine RUNL.run ?_)
        | ((with_reducible refine AR.ok ?_ ?_); exact ⟨by first | omega | (dsimp only; omega), by first | omega | (dsimp only; omega)⟩)
        | (with_reducible refine AR.wr ?_)
        | ((with_reducible intro w3 e3); try have z3 := cutLe e3)
        | ((with_reducible intro h3); have h4 := Nat.le_of_lt h3; clear h4)))
      refine ⟨k + 1, rfl, ⟨rfl, trivial⟩, rfl, rfl, ⟨by omega, fun j y hj hy => ?_⟩, by omega⟩
      rcases Nat.lt_or_ge j k with h | h
      · exact hno j y h hy
      · obtain rfl : j = k := by omega
        rw [hx] at hy; cases hy; simpa using hxv
  · repeat (any_goals (
      conv => whnf
      first
      | ((with_reducible refine BIF.dec ?_ ?_) <;> intro _)
      | ((with_reducible refine BIF.s ?_ ?_) <;> intro _)
      | (with_reducible refine NEXTK.normal ?_)
      | (with_reducible refine NEXTK.ret ?_)
      | (with_reducible refine NEXTK.exit ?_)
      | (with_reducible refine SEQ.plain ?_)
      | (with_reducible refine hK _ _ ?_)
      | ((with_reducible refine RUNL.agg (fun _ => ?_) ?_); (focus kernel_rfl))
      | (with_reducible refine RUNL.run ?_)
      | ((with_reducible refine AR.ok ?_ ?_); exact ⟨by first | omega | (dsimp only; omega), by first | omega | (dsimp only; omega)⟩)
      | (with_reducible refine AR.wr ?_)
      | ((with_reducible intro w3 e3); try have z3 := cutLe e3)
      | ((with_reducible intro h3); have h4 := Nat.le_of_lt h3; clear h4)))
    intro hw
    refine ⟨?_, hw⟩
    rw [idxP_none (fun j y hy => hno j y (by
      have := (List.getElem?_eq_some_iff.1 hy).1
      omega) hy)]; rfl
theorem nz_c (x : Int) (w : World) : Calls Tryd.prog 25 #[.int .i64 x] w fun e w' => e = .returned (.bool (!(x == 0))) ∧ E0 w w' := by
  refine enterK Non 5 Tryd.func25 rfl rfl rfl fun K hK => ?_
  repeat (any_goals (
    conv => whnf
    first
    | ((with_reducible refine BIF.dec ?_ ?_) <;> intro _)
    | ((with_reducible refine BIF.s ?_ ?_) <;> intro _)
    | (with_reducible refine NEXTK.normal ?_)
    | (with_reducible refine NEXTK.ret ?_)
    | (with_reducible refine NEXTK.exit ?_)
    | (with_reducible refine SEQ.plain ?_)
    | (with_reducible refine hK _ _ ?_)
    | ((with_reducible refine RUNL.agg (fun _ => ?_) ?_); (focus kernel_rfl))
    | (with_reducible refine RUNL.run ?_)
    | ((with_reducible refine AR.ok ?_ ?_); exact ⟨by first | omega | (dsimp only; omega), by first | omega | (dsimp only; omega)⟩)
    | (with_reducible refine AR.wr ?_)
    | ((with_reducible intro w3 e3); try have z3 := cutLe e3)
    | ((with_reducible intro h3); have h4 := Nat.le_of_lt h3; clear h4)))
  all_goals
    intro hx
    refine ⟨?_, hx⟩
    simp_all [resV] <;> rfl
theorem taken_c (a : Option Addr) (n c : Nat) (xs : List Int) (w : World) (hr : Row w a 1 (xs.map encI)) (hn : xs.length = n) (hm : n ≤ 4611686018427387904) (hc : n ≤ c ∧ c < 9223372036854775808) :
    Calls Tryd.prog 18 #[.slice a n c] w fun e w' => e = .returned (.tuple #[.int .i64 (tkI xs), .bool (tailZ xs)]) ∧ E0 w w' := by
  refine enterK Non 17 Tryd.func18 rfl rfl rfl fun K hK => ?_
  have hti := tkI_idx xs
  have htl := tkI_le xs
  by_cases ht : tkI xs < xs.length
  · rw [if_pos ht] at hti
    have hs2 := hr.sub (idxP (fun x => x == 0) xs) n c (by omega)
    rw [show (xs.drop (idxP (fun x => x == 0) xs).toNat).take ((n : Int).toNat - (idxP (fun x => x == 0) xs).toNat) = xs.drop (tkI xs) from by
        rw [hti, show ((tkI xs : Nat) : Int).toNat = tkI xs from by omega]
        exact List.take_of_length_le (by simp; omega)] at hs2
    repeat (any_goals (
      conv => whnf
      first
      | ((with_reducible refine callF (g := 24) ?_ ?_); kernel_rfl; refine ⟨_, IndexI_c 0 _ _ _ xs _ (by repeat (first | assumption | refine Row.e0 ?_ (by assumption))) hn hm, ?_⟩; intro w4 e4; have z4 := cutLe e4)
      | ((exfalso; omega))
      | ((with_reducible refine OBL.mk ?_ (fun _ => ?_)); omega)
      | ((with_reducible refine callF (g := 21) ?_ ?_); kernel_rfl; refine ⟨_, ContainsFuncI_c (fun x => !(x == 0)) _ _ _ (xs.drop (tkI xs)) _ _ _ (by repeat (first | assumption | refine Row.e0 ?_ (by assumption))) (by simp; omega) (by omega) (by kernel_rfl) (fun x _ w' _ => nz_c x w'), ?_⟩; intro w4 e4; have z4 := cutLe e4)
      | ((with_reducible refine BIF.dec ?_ ?_) <;> intro _)
      | ((with_reducible refine BIF.s ?_ ?_) <;> intro _)
      | (with_reducible refine NEXTK.normal ?_)
      | (with_reducible refine NEXTK.ret ?_)
      | (with_reducible refine NEXTK.exit ?_)
      | (with_reducible refine SEQ.plain ?_)
      | (with_reducible refine hK _ _ ?_)
      | ((with_reducible refine RUNL.agg (fun _ => ?_) ?_); (focus kernel_rfl))
      | (with_reducible refine RUNL.run ?_)
      | ((with_reducible refine AR.ok ?_ ?_); exact ⟨by first | omega | (dsimp only; omega), by first | omega | (dsimp only; omega)⟩)
      | (with_reducible refine AR.wr ?_)
      | ((with_reducible intro w3 e3); try have z3 := cutLe e3)
      | ((with_reducible intro h3); have h4 := Nat.le_of_lt h3; clear h4)))
    all_goals
      intro hx'
      refine ⟨?_, hx'⟩
      rw [hti]; rfl
  · rw [if_neg ht] at hti
    have htn : tkI xs = n := by omega
    repeat (any_goals (
      conv => whnf
      first
      | ((with_reducible refine callF (g := 24) ?_ ?_); kernel_rfl; refine ⟨_, IndexI_c 0 _ _ _ xs _ (by repeat (first | assumption | refine Row.e0 ?_ (by assumption))) hn hm, ?_⟩; intro w4 e4; have z4 := cutLe e4)
      | ((exfalso; omega))
      | ((with_reducible refine BIF.dec ?_ ?_) <;> intro _)
      | ((with_reducible refine BIF.s ?_ ?_) <;> intro _)
      | (with_reducible refine NEXTK.normal ?_)
      | (with_reducible refine NEXTK.ret ?_)
      | (with_reducible refine NEXTK.exit ?_)
      | (with_reducible refine SEQ.plain ?_)
      | (with_reducible refine hK _ _ ?_)
      | ((with_reducible refine RUNL.agg (fun _ => ?_) ?_); (focus kernel_rfl))
      | (with_reducible refine RUNL.run ?_)
      | ((with_reducible refine AR.ok ?_ ?_); exact ⟨by first | omega | (dsimp only; omega), by first | omega | (dsimp only; omega)⟩)
      | (with_reducible refine AR.wr ?_)
      | ((with_reducible intro w3 e3); try have z3 := cutLe e3)
      | ((with_reducible intro h3); have h4 := Nat.le_of_lt h3; clear h4)))
    all_goals
      intro hx'
      refine ⟨?_, hx'⟩
      have : tailZ xs = true := by simp [tailZ, htn, ← hn]
      rw [this, htn]; rfl

end Go.Proofs.YtlnihghpfikieaaDoor

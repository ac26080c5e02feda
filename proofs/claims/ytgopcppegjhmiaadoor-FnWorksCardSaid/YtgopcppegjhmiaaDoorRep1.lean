/- Damages, and the sheets that are lined. -/
import Derived.Test.YtgopcppegjhmiaaDoorRows
import Derived.Test.YtgopcppegjhmiaaDoorBase
namespace Go.Proofs.YtgopcppegjhmiaaDoor
open Go Go.X Go.Proofs Go.ChangeShapes Go.WideShapes Go.ChangeAt Go.RowKit
open Go.ChangeMaps (open_string shut_string)
set_option maxHeartbeats 1000000
set_option maxRecDepth 20000
set_option linter.unusedVariables false
set_option linter.unusedSimpArgs false
theorem IndexFuncDmg_c (p : Dmg → Bool) (a : Option Addr) (n c : Nat) (xs : List Dmg) (g : FuncId) (cap : Array Value) (w : World) (hr : Row w a 4 (xs.map encDmg)) (hn : xs.length = n) (hm : n ≤ 4611686018427387904) (hb : hasBody Tryd.prog g = true)
    (hf : ∀ x ∈ xs, ∀ w', E0 w w' → Calls Tryd.prog g (#[].toList ++ [Value.agg (encDmg x).toArray] ++ cap.toList).toArray w' fun e w'' => e = .returned (.bool (p x)) ∧ E0 w' w'') :
    Calls Tryd.prog 64 #[.slice a n c, .func (.func g) #[] cap] w fun e w' => e = .returned (.int .i64 (idxP p xs)) ∧ E0 w w' := by
  refine enterK Non 19 Tryd.func64 rfl rfl rfl fun K hK => ?_
  conv => whnf
  repeat (first | ((with_reducible refine NEXTK.normal ?_); conv => whnf) | ((with_reducible refine NEXTK.exit ?_); conv => whnf) | ((with_reducible refine NEXTK.ret ?_); conv => whnf) | ((with_reducible refine SEQ.plain ?_); conv => whnf) | ((with_reducible refine AR.ok ?_ ?_); exact ⟨by omega, by omega⟩; conv => whnf))
  refine LOOP.mk Nat (fun k => [(8, .v (.int .i64 k))]) (fun k _ => k ≤ n ∧ ∀ j y, j < k → xs[j]? = some y → p y = false) (fun k => n - k) 0 rfl ⟨rfl, trivial⟩ ⟨Nat.zero_le _, fun j y hj => by omega⟩ ?_
  rintro k wr ew ⟨hk, hno⟩
  conv => whnf
  repeat (first | ((with_reducible refine NEXTK.normal ?_); conv => whnf) | ((with_reducible refine NEXTK.exit ?_); conv => whnf) | ((with_reducible refine NEXTK.ret ?_); conv => whnf) | ((with_reducible refine SEQ.plain ?_); conv => whnf) | ((with_reducible refine AR.ok ?_ ?_); exact ⟨by omega, by omega⟩; conv => whnf))
  refine BIF.dec (fun hlt => ?_) (fun hlt => ?_)
  · have hlt' : k < xs.length := by omega
    have his := hr.isSome (by simp; omega)
    obtain ⟨x, hx⟩ : ∃ x, xs[k]? = some x := ⟨xs[k]'(by omega), by simp⟩
    repeat (any_goals (
      conv => whnf
      first
      | ((with_reducible refine OBL.mk ?_ (fun _ => ?_)); exact ⟨by first | omega | (dsimp only; omega), by first | omega | (dsimp only; omega), his⟩)
      | ((with_reducible refine ELD.at (k) hr ?_ ?_ ?_ (fun x' hx' => ?_)); exact mAddr_Non _; (first | rfl | omega); exact hlt'; obtain rfl : x = x' := by (rw [hx] at hx'; exact Option.some.inj hx'))
      | ((with_reducible refine callF (g := g) ?_ ?_); exact hb; refine ⟨_, hf x (List.mem_of_getElem? hx) _ ew, ?_⟩; intro w4 e4)
      | ((with_reducible refine BIF.dec ?_ ?_) <;> intro _)
      | ((with_reducible refine BIF.s ?_ ?_) <;> intro _)
      | (with_reducible refine NEXTK.normal ?_)
      | (with_reducible refine NEXTK.ret ?_)
      | (with_reducible refine NEXTK.exit ?_)
      | (with_reducible refine SEQ.plain ?_)
      | (with_reducible refine hK _ _ ?_)
      | ((with_reducible refine RUNL.agg (fun _ => ?_) ?_); (focus kernel_rfl))
      | (with_reducible refine RUNL.run ?_)
      | ((with_reducible refine AR.ok ?_ ?_); exact ⟨by first | omega | (dsimp only; omega), by first | omega | (dsimp only; omega)⟩)
      | (with_reducible refine AR.wr ?_)
      | ((with_reducible intro w3 e3); try have z3 := cutLe e3)
      | ((with_reducible intro h3); have h4 := Nat.le_of_lt h3; clear h4)))
    · intro hw
      refine ⟨?_, hw⟩
      rw [idxP_hit hx (by assumption) hno]; rfl
    · refine ⟨k + 1, rfl, ⟨rfl, trivial⟩, rfl, rfl, ⟨by omega, fun j y hj hy => ?_⟩, by omega⟩
      rcases Nat.lt_or_ge j k with h | h
      · exact hno j y h hy
      · obtain rfl : j = k := by omega
        rw [hx] at hy; cases hy; assumption
  · repeat (any_goals (
      conv => whnf
      first
      | ((with_reducible refine BIF.dec ?_ ?_) <;> intro _)
      | ((with_reducible refine BIF.s ?_ ?_) <;> intro _)
      | (with_reducible refine NEXTK.normal ?_)
      | (with_reducible refine NEXTK.ret ?_)
      | (with_reducible refine NEXTK.exit ?_)
      | (with_reducible refine SEQ.plain ?_)
      | (with_reducible refine hK _ _ ?_)
      | ((with_reducible refine RUNL.agg (fun _ => ?_) ?_); (focus kernel_rfl))
      | (with_reducible refine RUNL.run ?_)
      | ((with_reducible refine AR.ok ?_ ?_); exact ⟨by first | omega | (dsimp only; omega), by first | omega | (dsimp only; omega)⟩)
      | (with_reducible refine AR.wr ?_)
      | ((with_reducible intro w3 e3); try have z3 := cutLe e3)
      | ((with_reducible intro h3); have h4 := Nat.le_of_lt h3; clear h4)))
    intro hw
    refine ⟨?_, hw⟩
    rw [idxP_none (fun j y hy => hno j y (by
      have := (List.getElem?_eq_some_iff.1 hy).1
      omega) hy)]; rfl
theorem IndexFuncRep_c (p : Rep → Bool) (a : Option Addr) (n c : Nat) (xs : List Rep) (g : FuncId) (cap : Array Value) (w : World) (hr : Row w a 3 (xs.map encRep)) (hn : xs.length = n) (hm : n ≤ 4611686018427387904) (hb : hasBody Tryd.prog g = true)
    (hf : ∀ x ∈ xs, ∀ w', E0 w w' → Calls Tryd.prog g (#[].toList ++ [Value.agg (encRep x).toArray] ++ cap.toList).toArray w' fun e w'' => e = .returned (.bool (p x)) ∧ E0 w' w'') :
    Calls Tryd.prog 67 #[.slice a n c, .func (.func g) #[] cap] w fun e w' => e = .returned (.int .i64 (idxP p xs)) ∧ E0 w w' := by
  refine enterK Non 19 Tryd.func67 rfl rfl rfl fun K hK => ?_
  conv => whnf
  repeat (first | ((with_reducible refine NEXTK.normal ?_); conv => whnf) | ((with_reducible refine NEXTK.exit ?_); conv => whnf) | ((with_reducible refine NEXTK.ret ?_); conv => whnf) | ((with_reducible refine SEQ.plain ?_); conv => whnf) | ((with_reducible refine AR.ok ?_ ?_); exact ⟨by omega, by omega⟩; conv => whnf))
  refine LOOP.mk Nat (fun k => [(8, .v (.int .i64 k))]) (fun k _ => k ≤ n ∧ ∀ j y, j < k → xs[j]? = some y → p y = false) (fun k => n - k) 0 rfl ⟨rfl, trivial⟩ ⟨Nat.zero_le _, fun j y hj => by omega⟩ ?_
  rintro k wr ew ⟨hk, hno⟩
  conv => whnf
  repeat (first | ((with_reducible refine NEXTK.normal ?_); conv => whnf) | ((with_reducible refine NEXTK.exit ?_); conv => whnf) | ((with_reducible refine NEXTK.ret ?_); conv => whnf) | ((with_reducible refine SEQ.plain ?_); conv => whnf) | ((with_reducible refine AR.ok ?_ ?_); exact ⟨by omega, by omega⟩; conv => whnf))
  refine BIF.dec (fun hlt => ?_) (fun hlt => ?_)
  · have hlt' : k < xs.length := by omega
    have his := hr.isSome (by simp; omega)
    obtain ⟨x, hx⟩ : ∃ x, xs[k]? = some x := ⟨xs[k]'(by omega), by simp⟩
    repeat (any_goals (
      conv => whnf
      first
      | ((with_reducible refine OBL.mk ?_ (fun _ => ?_)); exact ⟨by first | omega | (dsimp only; omega), by first | omega | (dsimp only; omega), his⟩)
      | ((with_reducible refine ELD.at (k) hr ?_ ?_ ?_ (fun x' hx' => ?_)); exact mAddr_Non _; (first | rfl | omega); exact hlt'; obtain rfl : x = x' := by (rw [hx] at hx'; exact Option.some.inj hx'))
      | ((with_reducible refine callF (g := g) ?_ ?_); exact hb; refine ⟨_, hf x (List.mem_of_getElem? hx) _ ew, ?_⟩; intro w4 e4)
      | ((with_reducible refine BIF.dec ?_ ?_) <;> intro _)
      | ((with_reducible refine BIF.s ?_ ?_) <;> intro _)
      | (with_reducible refine NEXTK.normal ?_)
      | (with_reducible refine NEXTK.ret ?_)
      | (with_reducible refine NEXTK.exit ?_)
      | (with_reducible refine SEQ.plain ?_)
      | (with_reducible refine hK _ _ ?_)
      | ((with_reducible refine RUNL.agg (fun _ => ?_) ?_); (focus kernel_rfl))
      | (with_reducible refine RUNL.run ?_)
      | ((with_reducible refine AR.ok ?_ ?_); exact ⟨by first | omega | (dsimp only; omega), by first | omega | (dsimp only; omega)⟩)
      | (with_reducible refine AR.wr ?_)
      | ((with_reducible intro w3 e3); try have z3 := cutLe e3)
      | ((with_reducible intro h3); have h4 := Nat.le_of_lt h3; clear h4)))
    · intro hw
      refine ⟨?_, hw⟩
      rw [idxP_hit hx (by assumption) hno]; rfl
    · refine ⟨k + 1, rfl, ⟨rfl, trivial⟩, rfl, rfl, ⟨by omega, fun j y hj hy => ?_⟩, by omega⟩
      rcases Nat.lt_or_ge j k with h | h
      · exact hno j y h hy
      · obtain rfl : j = k := by omega
        rw [hx] at hy; cases hy; assumption
  · repeat (any_goals (
      conv => whnf
      first
      | ((with_reducible refine BIF.dec ?_ ?_) <;> intro _)
      | ((with_reducible refine BIF.s ?_ ?_) <;> intro _)
      | (with_reducible refine NEXTK.normal ?_)
      | (with_reducible refine NEXTK.ret ?_)
      | (with_reducible refine NEXTK.exit ?_)
      | (with_reducible refine SEQ.plain ?_)
      | (with_reducible refine hK _ _ ?_)
      | ((with_reducible refine RUNL.agg (fun _ => ?_) ?_); (focus kernel_rfl))
      | (with_reducible refine RUNL.run ?_)
      | ((with_reducible refine AR.ok ?_ ?_); exact ⟨by first | omega | (dsimp only; omega), by first | omega | (dsimp only; omega)⟩)
      | (with_reducible refine AR.wr ?_)
      | ((with_reducible intro w3 e3); try have z3 := cutLe e3)
      | ((with_reducible intro h3); have h4 := Nat.le_of_lt h3; clear h4)))
    intro hw
    refine ⟨?_, hw⟩
    rw [idxP_none (fun j y hy => hno j y (by
      have := (List.getElem?_eq_some_iff.1 hy).1
      omega) hy)]; rfl
theorem ContainsFuncRep_c (p : Rep → Bool) (a : Option Addr) (n c : Nat) (xs : List Rep) (g : FuncId) (cap : Array Value) (w : World) (hr : Row w a 3 (xs.map encRep)) (hn : xs.length = n) (hm : n ≤ 4611686018427387904) (hb : hasBody Tryd.prog g = true)
    (hf : ∀ x ∈ xs, ∀ w', E0 w w' → Calls Tryd.prog g (#[].toList ++ [Value.agg (encRep x).toArray] ++ cap.toList).toArray w' fun e w'' => e = .returned (.bool (p x)) ∧ E0 w' w'') :
    Calls Tryd.prog 46 #[.slice a n c, .func (.func g) #[] cap] w fun e w' => e = .returned (.bool (xs.any p)) ∧ E0 w w' := by
  refine enterK Non 9 Tryd.func46 rfl rfl rfl fun K hK => ?_
  repeat (any_goals (
    conv => whnf
    first
    | ((with_reducible refine callF (g := 67) ?_ ?_); kernel_rfl; refine ⟨_, IndexFuncRep_c p _ _ _ xs _ _ _ (by repeat (first | assumption | refine Row.e0 ?_ (by assumption))) hn hm hb hf, ?_⟩; intro w4 e4; have z4 := cutLe e4)
    | ((with_reducible refine BIF.dec ?_ ?_) <;> intro _)
    | ((with_reducible refine BIF.s ?_ ?_) <;> intro _)
    | (with_reducible refine NEXTK.normal ?_)
    | (with_reducible refine NEXTK.ret ?_)
    | (with_reducible refine NEXTK.exit ?_)
    | (with_reducible refine SEQ.plain ?_)
    | (with_reducible refine hK _ _ ?_)
    | ((with_reducible refine RUNL.agg (fun _ => ?_) ?_); (focus kernel_rfl))
    | (with_reducible refine RUNL.run ?_)
    | ((with_reducible refine AR.ok ?_ ?_); exact ⟨by first | omega | (dsimp only; omega), by first | omega | (dsimp only; omega)⟩)
    | (with_reducible refine AR.wr ?_)
    | ((with_reducible intro w3 e3); try have z3 := cutLe e3)
    | ((with_reducible intro h3); have h4 := Nat.le_of_lt h3; clear h4)))
  intro hw
  refine ⟨?_, hw⟩
  rw [← idxP_any]; rfl
def okD (x : Dmg) : Bool := inB x.fSheet 1 999 && inB x.fTears 0 50 && inB x.fFolds 0 50 && inB x.fStain 0 100
theorem okD_spec {x : Dmg} (h : okD x = true) : (1 ≤ x.fSheet ∧ x.fSheet ≤ 999) ∧ (0 ≤ x.fTears ∧ x.fTears ≤ 50) ∧ (0 ≤ x.fFolds ∧ x.fFolds ≤ 50) ∧ (0 ≤ x.fStain ∧ x.fStain ≤ 100) := by
  simp [okD, inB] at h
  omega
def okDAt (xs : List Dmg) (k : Nat) : Bool :=
  match xs[k]? with
  | some x => okD x && (k == 0 || (match xs[k - 1]? with
      | some y => decide (y.fSheet < x.fSheet)
      | none => true))
  | none => true
def okDUp (xs : List Dmg) (k : Nat) : Bool := (List.range k).all (okDAt xs)
theorem okDUp_succ (xs : List Dmg) (k : Nat) : okDUp xs (k + 1) = (okDUp xs k && okDAt xs k) := by simp [okDUp, List.range_succ]
def areD (xs : List Dmg) : Bool := okDUp xs xs.length && decide (xs.length ≤ 10)
theorem areD_false {xs : List Dmg} {k : Nat} (hk : k < xs.length) (h : okDAt xs k = false) : areD xs = false := by
  simp only [areD, okDUp, Bool.and_eq_false_iff]
  left
  rw [List.all_eq_false]
  exact ⟨k, by simpa using hk, by simp [h]⟩
theorem areD_len {xs : List Dmg} (h : areD xs = true) : xs.length ≤ 10 := by
  simp [areD] at h; exact h.2
theorem areD_at {xs : List Dmg} (h : areD xs = true) {k : Nat} {x : Dmg} (hx : xs[k]? = some x) : okD x = true := by
  simp only [areD, okDUp, Bool.and_eq_true, List.all_eq_true, List.mem_range] at h
  have := h.1 k (List.getElem?_eq_some_iff.1 hx).1
  simp [okDAt, hx] at this
  exact this.1
theorem isDamage_c (x : Dmg) (w : World) : Calls Tryd.prog 45 #[.agg (encDmg x).toArray] w fun e w' => e = .returned (.bool (okD x)) ∧ E0 w w' := by
  refine enterK Non 21 Tryd.func45 rfl rfl rfl fun K hK => ?_
  repeat (any_goals (
    conv => whnf
    first
    | ((with_reducible refine callF (g := 34) ?_ ?_); kernel_rfl; refine ⟨_, within_c _ _ _ _, ?_⟩; intro w4 e4; have z4 := cutLe e4)
    | ((with_reducible refine callF (g := 66) ?_ ?_); kernel_rfl; refine ⟨_, isId_c _ _, ?_⟩; intro w4 e4; have z4 := cutLe e4)
    | ((with_reducible refine BIF.dec ?_ ?_) <;> intro _)
    | ((with_reducible refine BIF.s ?_ ?_) <;> intro _)
    | (with_reducible refine NEXTK.normal ?_)
    | (with_reducible refine NEXTK.ret ?_)
    | (with_reducible refine NEXTK.exit ?_)
    | (with_reducible refine SEQ.plain ?_)
    | (with_reducible refine hK _ _ ?_)
    | ((with_reducible refine RUNL.agg (fun _ => ?_) ?_); (focus kernel_rfl))
    | (with_reducible refine RUNL.run ?_)
    | ((with_reducible refine AR.ok ?_ ?_); exact ⟨by first | omega | (dsimp only; omega), by first | omega | (dsimp only; omega)⟩)
    | (with_reducible refine AR.wr ?_)
    | ((with_reducible intro w3 e3); try have z3 := cutLe e3)
    | ((with_reducible intro h3); have h4 := Nat.le_of_lt h3; clear h4)))
  all_goals
    intro hx
    refine ⟨?_, hx⟩
    simp_all [okD, resV]
theorem l22One_c (x : Dmg) (w : World) : Calls Tryd.prog 50 #[.agg (encDmg x).toArray] w fun e w' => e = .returned (.bool (okD x)) ∧ E0 w w' := by
  refine enterK Non 21 Tryd.func50 rfl rfl rfl fun K hK => ?_
  repeat (any_goals (
    conv => whnf
    first
    | ((with_reducible refine callF (g := 40) ?_ ?_); kernel_rfl; refine ⟨_, l1In_c _ _ _ _, ?_⟩; intro w4 e4; have z4 := cutLe e4)
    | ((with_reducible refine BIF.dec ?_ ?_) <;> intro _)
    | ((with_reducible refine BIF.s ?_ ?_) <;> intro _)
    | (with_reducible refine NEXTK.normal ?_)
    | (with_reducible refine NEXTK.ret ?_)
    | (with_reducible refine NEXTK.exit ?_)
    | (with_reducible refine SEQ.plain ?_)
    | (with_reducible refine hK _ _ ?_)
    | ((with_reducible refine RUNL.agg (fun _ => ?_) ?_); (focus kernel_rfl))
    | (with_reducible refine RUNL.run ?_)
    | ((with_reducible refine AR.ok ?_ ?_); exact ⟨by first | omega | (dsimp only; omega), by first | omega | (dsimp only; omega)⟩)
    | (with_reducible refine AR.wr ?_)
    | ((with_reducible intro w3 e3); try have z3 := cutLe e3)
    | ((with_reducible intro h3); have h4 := Nat.le_of_lt h3; clear h4)))
  all_goals
    intro hx
    refine ⟨?_, hx⟩
    simp_all [okD, resV]
theorem AreDamages_c (a : Option Addr) (n c : Nat) (xs : List Dmg) (w : World) (hr : Row w a 4 (xs.map encDmg)) (hn : xs.length = n) (hm : n ≤ 4611686018427387904) :
    Calls Tryd.prog 54 #[.slice a n c] w fun e w' => e = .returned (.bool (areD xs)) ∧ E0 w w' := by
  refine enterK Non 34 Tryd.func54 rfl rfl rfl fun K hK => ?_
  conv => whnf
  repeat (first | ((with_reducible refine NEXTK.normal ?_); conv => whnf) | ((with_reducible refine NEXTK.exit ?_); conv => whnf) | ((with_reducible refine NEXTK.ret ?_); conv => whnf) | ((with_reducible refine SEQ.plain ?_); conv => whnf) | ((with_reducible refine AR.ok ?_ ?_); exact ⟨by omega, by omega⟩; conv => whnf))
  refine LOOP.mk Nat (fun k => [(7, .v (.int .i64 k))]) (fun k _ => k ≤ n ∧ okDUp xs k = true) (fun k => n - k) 0 rfl ⟨rfl, trivial⟩ ⟨Nat.zero_le _, rfl⟩ ?_
  rintro k wr - ⟨hk, hok⟩
  conv => whnf
  repeat (first | ((with_reducible refine NEXTK.normal ?_); conv => whnf) | ((with_reducible refine NEXTK.exit ?_); conv => whnf) | ((with_reducible refine NEXTK.ret ?_); conv => whnf) | ((with_reducible refine SEQ.plain ?_); conv => whnf) | ((with_reducible refine AR.ok ?_ ?_); exact ⟨by omega, by omega⟩; conv => whnf))
  refine BIF.dec (fun hlt => ?_) (fun hlt => ?_)
  · have hlt' : k < xs.length := by omega
    have hs := hr.isSome (by simp; omega)
    conv => whnf
    repeat (first | ((with_reducible refine NEXTK.normal ?_); conv => whnf) | ((with_reducible refine NEXTK.exit ?_); conv => whnf) | ((with_reducible refine NEXTK.ret ?_); conv => whnf) | ((with_reducible refine SEQ.plain ?_); conv => whnf) | ((with_reducible refine AR.ok ?_ ?_); exact ⟨by omega, by omega⟩; conv => whnf))
    refine OBL.mk ⟨by omega, by omega, hs⟩ (fun _ => ?_)
    conv => whnf
    repeat (first | ((with_reducible refine NEXTK.normal ?_); conv => whnf) | ((with_reducible refine NEXTK.exit ?_); conv => whnf) | ((with_reducible refine NEXTK.ret ?_); conv => whnf) | ((with_reducible refine SEQ.plain ?_); conv => whnf) | ((with_reducible refine AR.ok ?_ ?_); exact ⟨by omega, by omega⟩; conv => whnf))
    refine ELD.at k hr (mAddr_Non _) rfl hlt' (fun x hx => ?_)
    conv => whnf
    intro w1 e1 _
    conv => whnf
    intro w2 e2
    conv => whnf
    repeat (first | ((with_reducible refine NEXTK.normal ?_); conv => whnf) | ((with_reducible refine NEXTK.exit ?_); conv => whnf) | ((with_reducible refine NEXTK.ret ?_); conv => whnf) | ((with_reducible refine SEQ.plain ?_); conv => whnf) | ((with_reducible refine AR.ok ?_ ?_); exact ⟨by omega, by omega⟩; conv => whnf))
    refine DRAW.quiet (by kernel_rfl) (by kernel_rfl) ?_
    repeat (any_goals (
      conv => whnf
      first
      | ((with_reducible refine callQ (g := 45) ?_ ?_); kernel_rfl; refine ⟨_, fun w' _ => isDamage_c x w', ?_⟩)
      | ((with_reducible refine OBL.mk ?_ (fun _ => ?_)); exact ⟨by omega, by omega, hs⟩)
      | ((with_reducible refine ELD.at (k - 1) hr ?_ ?_ ?_ (fun y hy => ?_)); exact mAddr_Non _; omega; omega)
      | ((with_reducible refine BIF.dec ?_ ?_) <;> intro _)
      | ((with_reducible refine BIF.s ?_ ?_) <;> intro _)
      | (with_reducible refine NEXTK.normal ?_)
      | (with_reducible refine NEXTK.ret ?_)
      | (with_reducible refine NEXTK.exit ?_)
      | (with_reducible refine SEQ.plain ?_)
      | (with_reducible refine hK _ _ ?_)
      | ((with_reducible refine RUNL.agg (fun _ => ?_) ?_); (focus kernel_rfl))
      | (with_reducible refine RUNL.run ?_)
      | ((with_reducible refine AR.ok ?_ ?_); exact ⟨by first | omega | (dsimp only; omega), by first | omega | (dsimp only; omega)⟩)
      | (with_reducible refine AR.wr ?_)
      | ((with_reducible intro w3 e3); try have z3 := cutLe e3)
      | ((with_reducible intro h3); have h4 := Nat.le_of_lt h3; clear h4)))
    all_goals first
      | (intro hx'
         refine ⟨?_, hx'⟩
         rw [areD_false hlt' (by simp_all [okDAt]; try omega)]; rfl)
      | (refine ⟨k + 1, rfl, ⟨rfl, trivial⟩, rfl, rfl, ⟨by omega, ?_⟩, by omega⟩
         rw [okDUp_succ, hok]
         simp_all [okDAt]; try omega)
  · have hkn : k = xs.length := by omega
    conv => whnf
    repeat (first | ((with_reducible refine NEXTK.normal ?_); conv => whnf) | ((with_reducible refine NEXTK.exit ?_); conv => whnf) | ((with_reducible refine NEXTK.ret ?_); conv => whnf) | ((with_reducible refine SEQ.plain ?_); conv => whnf) | ((with_reducible refine AR.ok ?_ ?_); exact ⟨by omega, by omega⟩; conv => whnf))
    refine hK _ _ ?_
    conv => whnf
    intro hx'
    refine ⟨?_, hx'⟩
    rw [areD, ← hkn, hok]
    simp [resV]; omega
theorem l22Damages_c (a : Option Addr) (n c : Nat) (xs : List Dmg) (w : World) (hr : Row w a 4 (xs.map encDmg)) (hn : xs.length = n) (hm : n ≤ 4611686018427387904) :
    Calls Tryd.prog 56 #[.slice a n c] w fun e w' => e = .returned (.bool (areD xs)) ∧ E0 w w' := by
  refine enterK Non 37 Tryd.func56 rfl rfl rfl fun K hK => ?_
  conv => whnf
  repeat (first | ((with_reducible refine NEXTK.normal ?_); conv => whnf) | ((with_reducible refine NEXTK.exit ?_); conv => whnf) | ((with_reducible refine NEXTK.ret ?_); conv => whnf) | ((with_reducible refine SEQ.plain ?_); conv => whnf) | ((with_reducible refine AR.ok ?_ ?_); exact ⟨by omega, by omega⟩; conv => whnf))
  refine LOOP.mk Nat (fun k => [(3, .v (.int .i64 k))]) (fun k _ => k ≤ n ∧ okDUp xs k = true) (fun k => n - k) 0 rfl ⟨rfl, trivial⟩ ⟨Nat.zero_le _, rfl⟩ ?_
  rintro k wr - ⟨hk, hok⟩
  conv => whnf
  repeat (first | ((with_reducible refine NEXTK.normal ?_); conv => whnf) | ((with_reducible refine NEXTK.exit ?_); conv => whnf) | ((with_reducible refine NEXTK.ret ?_); conv => whnf) | ((with_reducible refine SEQ.plain ?_); conv => whnf) | ((with_reducible refine AR.ok ?_ ?_); exact ⟨by omega, by omega⟩; conv => whnf))
  refine BIF.dec (fun hlt => ?_) (fun hlt => ?_)
  · have hlt' : k < xs.length := by omega
    have hs := hr.isSome (by simp; omega)
    obtain ⟨x, hx⟩ : ∃ x, xs[k]? = some x := ⟨xs[k], by simp [hlt']⟩
    conv => whnf
    repeat (first | ((with_reducible refine NEXTK.normal ?_); conv => whnf) | ((with_reducible refine NEXTK.exit ?_); conv => whnf) | ((with_reducible refine NEXTK.ret ?_); conv => whnf) | ((with_reducible refine SEQ.plain ?_); conv => whnf) | ((with_reducible refine AR.ok ?_ ?_); exact ⟨by omega, by omega⟩; conv => whnf))
    refine DRAW.quiet (by kernel_rfl) (by kernel_rfl) ?_
    repeat (any_goals (
      conv => whnf
      first
      | ((with_reducible refine callQ (g := 50) ?_ ?_); kernel_rfl; refine ⟨_, fun w' _ => l22One_c _ w', ?_⟩)
      | ((with_reducible refine OBL.mk ?_ (fun _ => ?_)); exact ⟨by omega, by omega, hs⟩)
      | ((with_reducible refine ELD.at k hr ?_ rfl ?_ (fun x' hx' => ?_)); exact mAddr_Non _; exact hlt'; obtain rfl : x = x' := by (rw [hx] at hx'; exact Option.some.inj hx'))
      | ((with_reducible refine ELD.at (k - 1) hr ?_ ?_ ?_ (fun y hy => ?_)); exact mAddr_Non _; omega; omega)
      | ((with_reducible refine BIF.dec ?_ ?_) <;> intro _)
      | ((with_reducible refine BIF.s ?_ ?_) <;> intro _)
      | (with_reducible refine NEXTK.normal ?_)
      | (with_reducible refine NEXTK.ret ?_)
      | (with_reducible refine NEXTK.exit ?_)
      | (with_reducible refine SEQ.plain ?_)
      | (with_reducible refine hK _ _ ?_)
      | ((with_reducible refine RUNL.agg (fun _ => ?_) ?_); (focus kernel_rfl))
      | (with_reducible refine RUNL.run ?_)
      | ((with_reducible refine AR.ok ?_ ?_); exact ⟨by first | omega | (dsimp only; omega), by first | omega | (dsimp only; omega)⟩)
      | (with_reducible refine AR.wr ?_)
      | ((with_reducible intro w3 e3); try have z3 := cutLe e3)
      | ((with_reducible intro h3); have h4 := Nat.le_of_lt h3; clear h4)))
    all_goals first
      | (intro hx'
         refine ⟨?_, hx'⟩
         rw [areD_false hlt' (by simp_all [okDAt]; try omega)]; rfl)
      | (refine ⟨k + 1, rfl, ⟨rfl, trivial⟩, rfl, rfl, ⟨by omega, ?_⟩, by omega⟩
         rw [okDUp_succ, hok]
         simp_all [okDAt]; try omega)
  · have hkn : k = xs.length := by omega
    conv => whnf
    repeat (first | ((with_reducible refine NEXTK.normal ?_); conv => whnf) | ((with_reducible refine NEXTK.exit ?_); conv => whnf) | ((with_reducible refine NEXTK.ret ?_); conv => whnf) | ((with_reducible refine SEQ.plain ?_); conv => whnf) | ((with_reducible refine AR.ok ?_ ?_); exact ⟨by omega, by omega⟩; conv => whnf))
    refine hK _ _ ?_
    conv => whnf
    intro hx'
    refine ⟨?_, hx'⟩
    rw [areD, ← hkn, hok]
    simp [resV]; omega
def dAt (xs : List Dmg) (s : Int) : Int := idxP (fun x => decide (x.fSheet = s)) xs
def linedP (ys : List Rep) (s : Int) : Bool := ys.any (fun r => decide (r.fSheet = s) && decide (r.fWork = 4))
theorem l22Find_c (a : Option Addr) (n c : Nat) (xs : List Dmg) (s : Int) (w : World) (hr : Row w a 4 (xs.map encDmg)) (hn : xs.length = n) (hm : n ≤ 4611686018427387904) :
    Calls Tryd.prog 57 #[.slice a n c, .int .i64 s] w fun e w' => e = .returned (.int .i64 (dAt xs s)) ∧ E0 w w' := by
  refine enterK Non 20 Tryd.func57 rfl rfl rfl fun K hK => ?_
  conv => whnf
  repeat (first | ((with_reducible refine NEXTK.normal ?_); conv => whnf) | ((with_reducible refine NEXTK.exit ?_); conv => whnf) | ((with_reducible refine NEXTK.ret ?_); conv => whnf) | ((with_reducible refine SEQ.plain ?_); conv => whnf) | ((with_reducible refine AR.ok ?_ ?_); exact ⟨by omega, by omega⟩; conv => whnf))
  refine LOOP.mk Nat (fun k => [(5, .v (.int .i64 k))]) (fun k _ => k ≤ n ∧ ∀ j y, j < k → xs[j]? = some y → decide (y.fSheet = s) = false) (fun k => n - k) 0 rfl ⟨rfl, trivial⟩ ⟨Nat.zero_le _, fun j y hj => by omega⟩ ?_
  rintro k wr - ⟨hk, hno⟩
  conv => whnf
  repeat (first | ((with_reducible refine NEXTK.normal ?_); conv => whnf) | ((with_reducible refine NEXTK.exit ?_); conv => whnf) | ((with_reducible refine NEXTK.ret ?_); conv => whnf) | ((with_reducible refine SEQ.plain ?_); conv => whnf) | ((with_reducible refine AR.ok ?_ ?_); exact ⟨by omega, by omega⟩; conv => whnf))
  refine BIF.dec (fun hlt => ?_) (fun hlt => ?_)
  · have hlt' : k < xs.length := by omega
    have his := hr.isSome (by simp; omega)
    obtain ⟨x, hx⟩ : ∃ x, xs[k]? = some x := ⟨xs[k]'(by omega), by simp⟩
    repeat (any_goals (
      conv => whnf
      first
      | ((with_reducible refine OBL.mk ?_ (fun _ => ?_)); exact ⟨by first | omega | (dsimp only; omega), by first | omega | (dsimp only; omega), his⟩)
      | ((with_reducible refine ELD.at (k) hr ?_ ?_ ?_ (fun x' hx' => ?_)); exact mAddr_Non _; (first | rfl | omega); exact hlt'; obtain rfl : x = x' := by (rw [hx] at hx'; exact Option.some.inj hx'))
      | ((with_reducible refine BIF.dec ?_ ?_) <;> intro _)
      | ((with_reducible refine BIF.s ?_ ?_) <;> intro _)
      | (with_reducible refine NEXTK.normal ?_)
      | (with_reducible refine NEXTK.ret ?_)
      | (with_reducible refine NEXTK.exit ?_)
      | (with_reducible refine SEQ.plain ?_)
      | (with_reducible refine hK _ _ ?_)
      | ((with_reducible refine RUNL.agg (fun _ => ?_) ?_); (focus kernel_rfl))
      | (with_reducible refine RUNL.run ?_)
      | ((with_reducible refine AR.ok ?_ ?_); exact ⟨by first | omega | (dsimp only; omega), by first | omega | (dsimp only; omega)⟩)
      | (with_reducible refine AR.wr ?_)
      | ((with_reducible intro w3 e3); try have z3 := cutLe e3)
      | ((with_reducible intro h3); have h4 := Nat.le_of_lt h3; clear h4)))
    · intro hw
      refine ⟨?_, hw⟩
      rw [dAt, idxP_hit hx (by simp_all) hno]; rfl
    · refine ⟨k + 1, rfl, ⟨rfl, trivial⟩, rfl, rfl, ⟨by omega, fun j y hj hy => ?_⟩, by omega⟩
      rcases Nat.lt_or_ge j k with h | h
      · exact hno j y h hy
      · obtain rfl : j = k := by omega
        rw [hx] at hy; cases hy; simp_all
  · repeat (any_goals (
      conv => whnf
      first
      | ((with_reducible refine BIF.dec ?_ ?_) <;> intro _)
      | ((with_reducible refine BIF.s ?_ ?_) <;> intro _)
      | (with_reducible refine NEXTK.normal ?_)
      | (with_reducible refine NEXTK.ret ?_)
      | (with_reducible refine NEXTK.exit ?_)
      | (with_reducible refine SEQ.plain ?_)
      | (with_reducible refine hK _ _ ?_)
      | ((with_reducible refine RUNL.agg (fun _ => ?_) ?_); (focus kernel_rfl))
      | (with_reducible refine RUNL.run ?_)
      | ((with_reducible refine AR.ok ?_ ?_); exact ⟨by first | omega | (dsimp only; omega), by first | omega | (dsimp only; omega)⟩)
      | (with_reducible refine AR.wr ?_)
      | ((with_reducible intro w3 e3); try have z3 := cutLe e3)
      | ((with_reducible intro h3); have h4 := Nat.le_of_lt h3; clear h4)))
    intro hw
    refine ⟨?_, hw⟩
    rw [dAt, idxP_none (fun j y hy => hno j y (by
      have := (List.getElem?_eq_some_iff.1 hy).1
      omega) hy)]; rfl
theorem damageAt1_c (x : Dmg) (s : Int) (p : Addr) (w : World) (hp : Row w (some p) 1 [[.int .i64 s]]) :
    Calls Tryd.prog 65 #[.agg (encDmg x).toArray, .pointer (some p)] w fun e w' => e = .returned (.bool (decide (x.fSheet = s))) ∧ E0 w w' := by
  refine enterK Non 8 Tryd.func65 rfl rfl rfl fun K hK => ?_
  repeat (any_goals (
    conv => whnf
    first
    | ((with_reducible refine ELD.old [[.int .i64 s]] [.int .i64 s] hp ?_ ?_ ?_); exact mAddr_Non _; rfl)
    | ((with_reducible refine BIF.dec ?_ ?_) <;> intro _)
    | ((with_reducible refine BIF.s ?_ ?_) <;> intro _)
    | (with_reducible refine NEXTK.normal ?_)
    | (with_reducible refine NEXTK.ret ?_)
    | (with_reducible refine NEXTK.exit ?_)
    | (with_reducible refine SEQ.plain ?_)
    | (with_reducible refine hK _ _ ?_)
    | ((with_reducible refine RUNL.agg (fun _ => ?_) ?_); (focus kernel_rfl))
    | (with_reducible refine RUNL.run ?_)
    | ((with_reducible refine AR.ok ?_ ?_); exact ⟨by first | omega | (dsimp only; omega), by first | omega | (dsimp only; omega)⟩)
    | (with_reducible refine AR.wr ?_)
    | ((with_reducible intro w3 e3); try have z3 := cutLe e3)
    | ((with_reducible intro h3); have h4 := Nat.le_of_lt h3; clear h4)))
  intro hx
  refine ⟨?_, hx⟩
  simp [resV]; rfl
theorem damageAt_c (a : Option Addr) (n c : Nat) (xs : List Dmg) (s : Int) (w : World) (hr : Row w a 4 (xs.map encDmg)) (hn : xs.length = n) (hm : n ≤ 4611686018427387904) :
    Calls Tryd.prog 43 #[.slice a n c, .int .i64 s] w fun e w' => e = .returned (.int .i64 (dAt xs s)) ∧ E0 w w' := by
  refine enterK Non 8 Tryd.func43 rfl rfl rfl fun K hK => ?_
  repeat (any_goals (
    conv => whnf
    first
    | ((with_reducible refine RUN.mk (fun _ => rfl) ?_))
    | ((with_reducible refine callB (g := 64) ?_ ?_); kernel_rfl; intro hbx; refine ⟨_, IndexFuncDmg_c (fun x => decide (x.fSheet = s)) _ _ _ xs _ _ _ (by repeat (first | assumption | refine Row.e0 ?_ (by assumption))) hn hm (by kernel_rfl) (fun x _ w' e => damageAt1_c x s _ _ ((Boxes.row hbx 0 _ _ _ rfl).e0 e)), ?_⟩; intro w4 e4)
    | ((with_reducible refine BIF.dec ?_ ?_) <;> intro _)
    | ((with_reducible refine BIF.s ?_ ?_) <;> intro _)
    | (with_reducible refine NEXTK.normal ?_)
    | (with_reducible refine NEXTK.ret ?_)
    | (with_reducible refine NEXTK.exit ?_)
    | (with_reducible refine SEQ.plain ?_)
    | (with_reducible refine hK _ _ ?_)
    | ((with_reducible refine RUNL.agg (fun _ => ?_) ?_); (focus kernel_rfl))
    | (with_reducible refine RUNL.run ?_)
    | ((with_reducible refine AR.ok ?_ ?_); exact ⟨by first | omega | (dsimp only; omega), by first | omega | (dsimp only; omega)⟩)
    | (with_reducible refine AR.wr ?_)
    | ((with_reducible intro w3 e3); try have z3 := cutLe e3)
    | ((with_reducible intro h3); have h4 := Nat.le_of_lt h3; clear h4)))
  intro hw
  exact ⟨rfl, hw⟩
theorem l22Lined_c (a : Option Addr) (n c : Nat) (ys : List Rep) (s : Int) (w : World) (hr : Row w a 3 (ys.map encRep)) (hn : ys.length = n) (hm : n ≤ 4611686018427387904) :
    Calls Tryd.prog 59 #[.slice a n c, .int .i64 s] w fun e w' => e = .returned (.bool (linedP ys s)) ∧ E0 w w' := by
  refine enterK Non 27 Tryd.func59 rfl rfl rfl fun K hK => ?_
  conv => whnf
  repeat (first | ((with_reducible refine NEXTK.normal ?_); conv => whnf) | ((with_reducible refine NEXTK.exit ?_); conv => whnf) | ((with_reducible refine NEXTK.ret ?_); conv => whnf) | ((with_reducible refine SEQ.plain ?_); conv => whnf) | ((with_reducible refine AR.ok ?_ ?_); exact ⟨by omega, by omega⟩; conv => whnf))
  refine LOOP.mk Nat (fun k => [(5, .v (.int .i64 k))]) (fun k _ => k ≤ n ∧ linedP (ys.take k) s = false) (fun k => n - k) 0 rfl ⟨rfl, trivial⟩ ⟨Nat.zero_le _, rfl⟩ ?_
  rintro k wr - ⟨hk, hno⟩
  conv => whnf
  repeat (first | ((with_reducible refine NEXTK.normal ?_); conv => whnf) | ((with_reducible refine NEXTK.exit ?_); conv => whnf) | ((with_reducible refine NEXTK.ret ?_); conv => whnf) | ((with_reducible refine SEQ.plain ?_); conv => whnf) | ((with_reducible refine AR.ok ?_ ?_); exact ⟨by omega, by omega⟩; conv => whnf))
  refine BIF.dec (fun hlt => ?_) (fun hlt => ?_)
  · have hlt' : k < ys.length := by omega
    have his := hr.isSome (by simp; omega)
    obtain ⟨x, hx⟩ : ∃ x, ys[k]? = some x := ⟨ys[k]'(by omega), by simp⟩
    have htk : linedP (ys.take (k + 1)) s = (decide (x.fSheet = s) && decide (x.fWork = 4)) := by
      unfold linedP at hno ⊢
      rw [List.take_add_one, hx, List.any_append, hno]; simp
    repeat (any_goals (
      conv => whnf
      first
      | ((with_reducible refine OBL.mk ?_ (fun _ => ?_)); exact ⟨by first | omega | (dsimp only; omega), by first | omega | (dsimp only; omega), his⟩)
      | ((with_reducible refine ELD.at (k) hr ?_ ?_ ?_ (fun x' hx' => ?_)); exact mAddr_Non _; (first | rfl | omega); exact hlt'; obtain rfl : x = x' := by (rw [hx] at hx'; exact Option.some.inj hx'))
      | ((with_reducible refine BIF.dec ?_ ?_) <;> intro _)
      | ((with_reducible refine BIF.s ?_ ?_) <;> intro _)
      | (with_reducible refine NEXTK.normal ?_)
      | (with_reducible refine NEXTK.ret ?_)
      | (with_reducible refine NEXTK.exit ?_)
      | (with_reducible refine SEQ.plain ?_)
      | (with_reducible refine hK _ _ ?_)
      | ((with_reducible refine RUNL.agg (fun _ => ?_) ?_); (focus kernel_rfl))
      | (with_reducible refine RUNL.run ?_)
      | ((with_reducible refine AR.ok ?_ ?_); exact ⟨by first | omega | (dsimp only; omega), by first | omega | (dsimp only; omega)⟩)
      | (with_reducible refine AR.wr ?_)
      | ((with_reducible intro w3 e3); try have z3 := cutLe e3)
      | ((with_reducible intro h3); have h4 := Nat.le_of_lt h3; clear h4)))
    all_goals first
      | (intro hw
         refine ⟨?_, hw⟩
         have : linedP ys s = true := by
           unfold linedP
           rw [List.any_eq_true]
           exact ⟨x, List.mem_of_getElem? hx, by simp_all⟩
         rw [this]; rfl)
      | (refine ⟨k + 1, rfl, ⟨rfl, trivial⟩, rfl, rfl, ⟨by omega, ?_⟩, by omega⟩
         rw [htk]; simp_all)
  · repeat (any_goals (
      conv => whnf
      first
      | ((with_reducible refine BIF.dec ?_ ?_) <;> intro _)
      | ((with_reducible refine BIF.s ?_ ?_) <;> intro _)
      | (with_reducible refine NEXTK.normal ?_)
      | (with_reducible refine NEXTK.ret ?_)
      | (with_reducible refine NEXTK.exit ?_)
      | (with_reducible refine SEQ.plain ?_)
      | (with_reducible refine hK _ _ ?_)
      | ((with_reducible refine RUNL.agg (fun _ => ?_) ?_); (focus kernel_rfl))
      | (with_reducible refine RUNL.run ?_)
      | ((with_reducible refine AR.ok ?_ ?_); exact ⟨by first | omega | (dsimp only; omega), by first | omega | (dsimp only; omega)⟩)
      | (with_reducible refine AR.wr ?_)
      | ((with_reducible intro w3 e3); try have z3 := cutLe e3)
      | ((with_reducible intro h3); have h4 := Nat.le_of_lt h3; clear h4)))
    intro hw
    refine ⟨?_, hw⟩
    rw [List.take_of_length_le (by omega)] at hno
    rw [hno]; rfl
theorem isLined1_c (x : Rep) (s : Int) (p : Addr) (w : World) (hp : Row w (some p) 1 [[.int .i64 s]]) :
    Calls Tryd.prog 69 #[.agg (encRep x).toArray, .pointer (some p)] w fun e w' => e = .returned (.bool (decide (x.fSheet = s) && decide (x.fWork = 4))) ∧ E0 w w' := by
  refine enterK Non 13 Tryd.func69 rfl rfl rfl fun K hK => ?_
  repeat (any_goals (
    conv => whnf
    first
    | ((with_reducible refine ELD.old [[.int .i64 s]] [.int .i64 s] hp ?_ ?_ ?_); exact mAddr_Non _; rfl)
    | ((with_reducible refine BIF.dec ?_ ?_) <;> intro _)
    | ((with_reducible refine BIF.s ?_ ?_) <;> intro _)
    | (with_reducible refine NEXTK.normal ?_)
    | (with_reducible refine NEXTK.ret ?_)
    | (with_reducible refine NEXTK.exit ?_)
    | (with_reducible refine SEQ.plain ?_)
    | (with_reducible refine hK _ _ ?_)
    | ((with_reducible refine RUNL.agg (fun _ => ?_) ?_); (focus kernel_rfl))
    | (with_reducible refine RUNL.run ?_)
    | ((with_reducible refine AR.ok ?_ ?_); exact ⟨by first | omega | (dsimp only; omega), by first | omega | (dsimp only; omega)⟩)
    | (with_reducible refine AR.wr ?_)
    | ((with_reducible intro w3 e3); try have z3 := cutLe e3)
    | ((with_reducible intro h3); have h4 := Nat.le_of_lt h3; clear h4)))
  all_goals
    intro hx
    refine ⟨?_, hx⟩
    simp_all [resV]
    try rfl
theorem isLined_c (a : Option Addr) (n c : Nat) (ys : List Rep) (s : Int) (w : World) (hr : Row w a 3 (ys.map encRep)) (hn : ys.length = n) (hm : n ≤ 4611686018427387904) :
    Calls Tryd.prog 55 #[.slice a n c, .int .i64 s] w fun e w' => e = .returned (.bool (linedP ys s)) ∧ E0 w w' := by
  refine enterK Non 8 Tryd.func55 rfl rfl rfl fun K hK => ?_
  repeat (any_goals (
    conv => whnf
    first
    | ((with_reducible refine RUN.mk (fun _ => rfl) ?_))
    | ((with_reducible refine callB (g := 46) ?_ ?_); kernel_rfl; intro hbx; refine ⟨_, ContainsFuncRep_c (fun x => decide (x.fSheet = s) && decide (x.fWork = 4)) _ _ _ ys _ _ _ (by repeat (first | assumption | refine Row.e0 ?_ (by assumption))) hn hm (by kernel_rfl) (fun x _ w' e => isLined1_c x s _ _ ((Boxes.row hbx 0 _ _ _ rfl).e0 e)), ?_⟩; intro w4 e4)
    | ((with_reducible refine BIF.dec ?_ ?_) <;> intro _)
    | ((with_reducible refine BIF.s ?_ ?_) <;> intro _)
    | (with_reducible refine NEXTK.normal ?_)
    | (with_reducible refine NEXTK.ret ?_)
    | (with_reducible refine NEXTK.exit ?_)
    | (with_reducible refine SEQ.plain ?_)
    | (with_reducible refine hK _ _ ?_)
    | ((with_reducible refine RUNL.agg (fun _ => ?_) ?_); (focus kernel_rfl))
    | (with_reducible refine RUNL.run ?_)
    | ((with_reducible refine AR.ok ?_ ?_); exact ⟨by first | omega | (dsimp only; omega), by first | omega | (dsimp only; omega)⟩)
    | (with_reducible refine AR.wr ?_)
    | ((with_reducible intro w3 e3); try have z3 := cutLe e3)
    | ((with_reducible intro h3); have h4 := Nat.le_of_lt h3; clear h4)))
  intro hw
  exact ⟨rfl, hw⟩

end Go.Proofs.YtgopcppegjhmiaaDoor

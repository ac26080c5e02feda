/- What an entry is. -/
import Derived.Test.YtpddilkonkkppaaGreatDoorRows
import Derived.Test.YtpddilkonkkppaaGreatDoorMerge1
namespace Go.Proofs.YtpddilkonkkppaaGreatDoor
open Go Go.X Go.Proofs Go.ChangeShapes Go.WideShapes Go.ChangeAt Go.RowKit
open Go.ChangeMaps (open_string shut_string)
set_option maxHeartbeats 1000000
set_option maxRecDepth 20000
set_option linter.unusedVariables false
set_option linter.unusedSimpArgs false
theorem IndexFuncI_c (p : Int → Bool) (a : Option Addr) (n c : Nat) (xs : List Int) (g : FuncId) (cap : Array Value) (w : World) (hr : Row w a 1 (xs.map encI)) (hn : xs.length = n) (hm : n ≤ 4611686018427387904) (hb : hasBody Tryz.prog g = true)
    (hf : ∀ x ∈ xs, ∀ w', E0 w w' → Calls Tryz.prog g (#[].toList ++ [Value.int .i64 x] ++ cap.toList).toArray w' fun e w'' => e = .returned (.bool (p x)) ∧ E0 w' w'') :
    Calls Tryz.prog 96 #[.slice a n c, .func (.func g) #[] cap] w fun e w' => e = .returned (.int .i64 (idxP p xs)) ∧ E0 w w' := by
  refine enterK Non 19 Tryz.func96 rfl rfl rfl fun K hK => ?_
  conv => whnf
  repeat (first | ((with_reducible refine NEXTK.normal ?_); conv => whnf) | ((with_reducible refine NEXTK.exit ?_); conv => whnf) | ((with_reducible refine NEXTK.ret ?_); conv => whnf) | ((with_reducible refine SEQ.plain ?_); conv => whnf) | ((with_reducible refine AR.ok ?_ ?_); exact ⟨by omega, by omega⟩; conv => whnf))
  refine LOOP.mk Nat (fun k => [(8, .v (.int .i64 k))]) (fun k _ => k ≤ n ∧ ∀ j y, j < k → xs[j]? = some y → p y = false) (fun k => n - k) 0 rfl ⟨rfl, trivial⟩ ⟨Nat.zero_le _, fun j y hj => by omega⟩ ?_
  rintro k wr ew ⟨hk, hno⟩
  conv => whnf
  repeat (first | ((with_reducible refine NEXTK.normal ?_); conv => whnf) | ((with_reducible refine NEXTK.exit ?_); conv => whnf) | ((with_reducible refine NEXTK.ret ?_); conv => whnf) | ((with_reducible refine SEQ.plain ?_); conv => whnf) | ((with_reducible refine AR.ok ?_ ?_); exact ⟨by omega, by omega⟩; conv => whnf))
  refine BIF.dec (fun hlt => ?_) (fun hlt => ?_)
  · have hlt' : k < xs.length := by omega
    have his := hr.isSome (by simp; omega)
    obtain ⟨x, hx⟩ : ∃ x, xs[k]? = some x := ⟨xs[k]'(by omega), by simp⟩
    repeat (any_goals (
      conv => whnf
      first
      | ((with_reducible refine OBL.mk ?_ (fun _ => ?_)); exact ⟨by first | omega | (dsimp only; omega), by first | omega | (dsimp only; omega), his⟩)
      | ((with_reducible refine ELD.at (k) hr ?_ ?_ ?_ (fun x' hx' => ?_)); exact mAddr_Non _; (first | rfl | omega); exact hlt'; obtain rfl : x = x' := by (rw [hx] at hx'; exact Option.some.inj hx'))
      | ((with_reducible refine callF (g := g) ?_ ?_); exact hb; refine ⟨_, hf x (List.mem_of_getElem? hx) _ ew, ?_⟩; intro w4 e4)
      | ((with_reducible refine BIF.dec ?_ ?_) <;> intro _)
      | ((with_reducible refine BIF.s ?_ ?_) <;> intro _)
      | (with_reducible refine NEXTK.normal ?_)
      | (with_reducible refine NEXTK.ret ?_)
      | (with_reducible refine NEXTK.exit ?_)
      | (with_reducible refine SEQ.plain ?_)
      | (with_reducible refine hK _ _ ?_)
      | ((with_reducible refine RUNL.agg (fun _ => ?_) ?_); (focus kernel_rfl))
      | (with_reducible refine RUNL.run ?_)
      | ((with_reducible refine AR.ok ?_ ?_); exact ⟨by first | omega | (dsimp only; omega), by first | omega | (dsimp only; omega)⟩)
      | (with_reducible refine AR.wr ?_)
      | ((with_reducible intro w3 e3); try have z3 := cutLe e3)
      | ((with_reducible intro h3); have h4 := Nat.le_of_lt h3; clear h4)))
    · intro hw
      refine ⟨?_, hw⟩
      rw [idxP_hit hx (by assumption) hno]; rfl
    · refine ⟨k + 1, rfl, ⟨rfl, trivial⟩, rfl, rfl, ⟨by omega, fun j y hj hy => ?_⟩, by omega⟩
      rcases Nat.lt_or_ge j k with h | h
      · exact hno j y h hy
      · obtain rfl : j = k := by omega
        rw [hx] at hy; cases hy; assumption
  · repeat (any_goals (
      conv => whnf
      first
      | ((with_reducible refine BIF.dec ?_ ?_) <;> intro _)
      | ((with_reducible refine BIF.s ?_ ?_) <;> intro _)
      | (with_reducible refine NEXTK.normal ?_)
      | (with_reducible refine NEXTK.ret ?_)
      | (with_reducible refine NEXTK.exit ?_)
      | (with_reducible refine SEQ.plain ?_)
      | (with_reducible refine hK _ _ ?_)
      | ((with_reducible refine RUNL.agg (fun _ => ?_) ?_); (focus kernel_rfl))
      | (with_reducible refine RUNL.run ?_)
      | ((with_reducible refine AR.ok ?_ ?_); exact ⟨by first | omega | (dsimp only; omega), by first | omega | (dsimp only; omega)⟩)
      | (with_reducible refine AR.wr ?_)
      | ((with_reducible intro w3 e3); try have z3 := cutLe e3)
      | ((with_reducible intro h3); have h4 := Nat.le_of_lt h3; clear h4)))
    intro hw
    refine ⟨?_, hw⟩
    rw [idxP_none (fun j y hy => hno j y (by
      have := (List.getElem?_eq_some_iff.1 hy).1
      omega) hy)]; rfl
theorem ContainsFuncI_c (p : Int → Bool) (a : Option Addr) (n c : Nat) (xs : List Int) (g : FuncId) (cap : Array Value) (w : World) (hr : Row w a 1 (xs.map encI)) (hn : xs.length = n) (hm : n ≤ 4611686018427387904) (hb : hasBody Tryz.prog g = true)
    (hf : ∀ x ∈ xs, ∀ w', E0 w w' → Calls Tryz.prog g (#[].toList ++ [Value.int .i64 x] ++ cap.toList).toArray w' fun e w'' => e = .returned (.bool (p x)) ∧ E0 w' w'') :
    Calls Tryz.prog 75 #[.slice a n c, .func (.func g) #[] cap] w fun e w' => e = .returned (.bool (xs.any p)) ∧ E0 w w' := by
  refine enterK Non 9 Tryz.func75 rfl rfl rfl fun K hK => ?_
  repeat (any_goals (
    conv => whnf
    first
    | ((with_reducible refine callF (g := 96) ?_ ?_); kernel_rfl; refine ⟨_, IndexFuncI_c p _ _ _ xs _ _ _ (by repeat (first | assumption | refine Row.e0 ?_ (by assumption))) hn hm hb hf, ?_⟩; intro w4 e4; have z4 := cutLe e4)
    | ((with_reducible refine BIF.dec ?_ ?_) <;> intro _)
    | ((with_reducible refine BIF.s ?_ ?_) <;> intro _)
    | (with_reducible refine NEXTK.normal ?_)
    | (with_reducible refine NEXTK.ret ?_)
    | (with_reducible refine NEXTK.exit ?_)
    | (with_reducible refine SEQ.plain ?_)
    | (with_reducible refine hK _ _ ?_)
    | ((with_reducible refine RUNL.agg (fun _ => ?_) ?_); (focus kernel_rfl))
    | (with_reducible refine RUNL.run ?_)
    | ((with_reducible refine AR.ok ?_ ?_); exact ⟨by first | omega | (dsimp only; omega), by first | omega | (dsimp only; omega)⟩)
    | (with_reducible refine AR.wr ?_)
    | ((with_reducible intro w3 e3); try have z3 := cutLe e3)
    | ((with_reducible intro h3); have h4 := Nat.le_of_lt h3; clear h4)))
  intro hw
  refine ⟨?_, hw⟩
  rw [← idxP_any]; rfl
theorem IndexFuncT_c (p : Tri → Bool) (a : Option Addr) (n c : Nat) (xs : List Tri) (g : FuncId) (cap : Array Value) (w : World) (hr : Row w a 6 (xs.map encT)) (hn : xs.length = n) (hm : n ≤ 4611686018427387904) (hb : hasBody Tryz.prog g = true)
    (hf : ∀ x ∈ xs, ∀ w', E0 w w' → Calls Tryz.prog g (#[].toList ++ [Value.agg (encT x).toArray] ++ cap.toList).toArray w' fun e w'' => e = .returned (.bool (p x)) ∧ E0 w' w'') :
    Calls Tryz.prog 80 #[.slice a n c, .func (.func g) #[] cap] w fun e w' => e = .returned (.int .i64 (idxP p xs)) ∧ E0 w w' := by
  refine enterK Non 19 Tryz.func80 rfl rfl rfl fun K hK => ?_
  conv => whnf
  repeat (first | ((with_reducible refine NEXTK.normal ?_); conv => whnf) | ((with_reducible refine NEXTK.exit ?_); conv => whnf) | ((with_reducible refine NEXTK.ret ?_); conv => whnf) | ((with_reducible refine SEQ.plain ?_); conv => whnf) | ((with_reducible refine AR.ok ?_ ?_); exact ⟨by omega, by omega⟩; conv => whnf))
  refine LOOP.mk Nat (fun k => [(8, .v (.int .i64 k))]) (fun k _ => k ≤ n ∧ ∀ j y, j < k → xs[j]? = some y → p y = false) (fun k => n - k) 0 rfl ⟨rfl, trivial⟩ ⟨Nat.zero_le _, fun j y hj => by omega⟩ ?_
  rintro k wr ew ⟨hk, hno⟩
  conv => whnf
  repeat (first | ((with_reducible refine NEXTK.normal ?_); conv => whnf) | ((with_reducible refine NEXTK.exit ?_); conv => whnf) | ((with_reducible refine NEXTK.ret ?_); conv => whnf) | ((with_reducible refine SEQ.plain ?_); conv => whnf) | ((with_reducible refine AR.ok ?_ ?_); exact ⟨by omega, by omega⟩; conv => whnf))
  refine BIF.dec (fun hlt => ?_) (fun hlt => ?_)
  · have hlt' : k < xs.length := by omega
    have his := hr.isSome (by simp; omega)
    obtain ⟨x, hx⟩ : ∃ x, xs[k]? = some x := ⟨xs[k]'(by omega), by simp⟩
    repeat (any_goals (
      conv => whnf
      first
      | ((with_reducible refine OBL.mk ?_ (fun _ => ?_)); exact ⟨by first | omega | (dsimp only; omega), by first | omega | (dsimp only; omega), his⟩)
      | ((with_reducible refine ELD.at (k) hr ?_ ?_ ?_ (fun x' hx' => ?_)); exact mAddr_Non _; (first | rfl | omega); exact hlt'; obtain rfl : x = x' := by (rw [hx] at hx'; exact Option.some.inj hx'))
      | ((with_reducible refine callF (g := g) ?_ ?_); exact hb; refine ⟨_, hf x (List.mem_of_getElem? hx) _ ew, ?_⟩; intro w4 e4)
      | ((with_reducible refine BIF.dec ?_ ?_) <;> intro _)
      | ((with_reducible refine BIF.s ?_ ?_) <;> intro _)
      | (with_reducible refine NEXTK.normal ?_)
      | (with_reducible refine NEXTK.ret ?_)
      | (with_reducible refine NEXTK.exit ?_)
      | (with_reducible refine SEQ.plain ?_)
      | (with_reducible refine hK _ _ ?_)
      | ((with_reducible refine RUNL.agg (fun _ => ?_) ?_); (focus kernel_rfl))
      | (with_reducible refine RUNL.run ?_)
      | ((with_reducible refine AR.ok ?_ ?_); exact ⟨by first | omega | (dsimp only; omega), by first | omega | (dsimp only; omega)⟩)
      | (with_reducible refine AR.wr ?_)
      | ((with_reducible intro w3 e3); try have z3 := cutLe e3)
      | ((with_reducible intro h3); have h4 := Nat.le_of_lt h3; clear h4)))
    · intro hw
      refine ⟨?_, hw⟩
      rw [idxP_hit hx (by assumption) hno]; rfl
    · refine ⟨k + 1, rfl, ⟨rfl, trivial⟩, rfl, rfl, ⟨by omega, fun j y hj hy => ?_⟩, by omega⟩
      rcases Nat.lt_or_ge j k with h | h
      · exact hno j y h hy
      · obtain rfl : j = k := by omega
        rw [hx] at hy; cases hy; assumption
  · repeat (any_goals (
      conv => whnf
      first
      | ((with_reducible refine BIF.dec ?_ ?_) <;> intro _)
      | ((with_reducible refine BIF.s ?_ ?_) <;> intro _)
      | (with_reducible refine NEXTK.normal ?_)
      | (with_reducible refine NEXTK.ret ?_)
      | (with_reducible refine NEXTK.exit ?_)
      | (with_reducible refine SEQ.plain ?_)
      | (with_reducible refine hK _ _ ?_)
      | ((with_reducible refine RUNL.agg (fun _ => ?_) ?_); (focus kernel_rfl))
      | (with_reducible refine RUNL.run ?_)
      | ((with_reducible refine AR.ok ?_ ?_); exact ⟨by first | omega | (dsimp only; omega), by first | omega | (dsimp only; omega)⟩)
      | (with_reducible refine AR.wr ?_)
      | ((with_reducible intro w3 e3); try have z3 := cutLe e3)
      | ((with_reducible intro h3); have h4 := Nat.le_of_lt h3; clear h4)))
    intro hw
    refine ⟨?_, hw⟩
    rw [idxP_none (fun j y hy => hno j y (by
      have := (List.getElem?_eq_some_iff.1 hy).1
      omega) hy)]; rfl
theorem ContainsFuncT_c (p : Tri → Bool) (a : Option Addr) (n c : Nat) (xs : List Tri) (g : FuncId) (cap : Array Value) (w : World) (hr : Row w a 6 (xs.map encT)) (hn : xs.length = n) (hm : n ≤ 4611686018427387904) (hb : hasBody Tryz.prog g = true)
    (hf : ∀ x ∈ xs, ∀ w', E0 w w' → Calls Tryz.prog g (#[].toList ++ [Value.agg (encT x).toArray] ++ cap.toList).toArray w' fun e w'' => e = .returned (.bool (p x)) ∧ E0 w' w'') :
    Calls Tryz.prog 47 #[.slice a n c, .func (.func g) #[] cap] w fun e w' => e = .returned (.bool (xs.any p)) ∧ E0 w w' := by
  refine enterK Non 9 Tryz.func47 rfl rfl rfl fun K hK => ?_
  repeat (any_goals (
    conv => whnf
    first
    | ((with_reducible refine callF (g := 80) ?_ ?_); kernel_rfl; refine ⟨_, IndexFuncT_c p _ _ _ xs _ _ _ (by repeat (first | assumption | refine Row.e0 ?_ (by assumption))) hn hm hb hf, ?_⟩; intro w4 e4; have z4 := cutLe e4)
    | ((with_reducible refine BIF.dec ?_ ?_) <;> intro _)
    | ((with_reducible refine BIF.s ?_ ?_) <;> intro _)
    | (with_reducible refine NEXTK.normal ?_)
    | (with_reducible refine NEXTK.ret ?_)
    | (with_reducible refine NEXTK.exit ?_)
    | (with_reducible refine SEQ.plain ?_)
    | (with_reducible refine hK _ _ ?_)
    | ((with_reducible refine RUNL.agg (fun _ => ?_) ?_); (focus kernel_rfl))
    | (with_reducible refine RUNL.run ?_)
    | ((with_reducible refine AR.ok ?_ ?_); exact ⟨by first | omega | (dsimp only; omega), by first | omega | (dsimp only; omega)⟩)
    | (with_reducible refine AR.wr ?_)
    | ((with_reducible intro w3 e3); try have z3 := cutLe e3)
    | ((with_reducible intro h3); have h4 := Nat.le_of_lt h3; clear h4)))
  intro hw
  refine ⟨?_, hw⟩
  rw [← idxP_any]; rfl
theorem isYear_c (n : Int) (w : World) : Calls Tryz.prog 78 #[.int .i64 n] w fun e w' => e = .returned (.bool (inB n 1500 2100)) ∧ E0 w w' := by
  refine enterK Non 5 Tryz.func78 rfl rfl rfl fun K hK => ?_
  repeat (any_goals (
    conv => whnf
    first
    | ((with_reducible refine callF (g := 79) ?_ ?_); kernel_rfl; refine ⟨_, within_c _ _ _ _, ?_⟩; intro w4 e4; have z4 := cutLe e4)
    | ((with_reducible refine BIF.dec ?_ ?_) <;> intro _)
    | ((with_reducible refine BIF.s ?_ ?_) <;> intro _)
    | (with_reducible refine NEXTK.normal ?_)
    | (with_reducible refine NEXTK.ret ?_)
    | (with_reducible refine NEXTK.exit ?_)
    | (with_reducible refine SEQ.plain ?_)
    | (with_reducible refine hK _ _ ?_)
    | ((with_reducible refine RUNL.agg (fun _ => ?_) ?_); (focus kernel_rfl))
    | (with_reducible refine RUNL.run ?_)
    | ((with_reducible refine AR.ok ?_ ?_); exact ⟨by first | omega | (dsimp only; omega), by first | omega | (dsimp only; omega)⟩)
    | (with_reducible refine AR.wr ?_)
    | ((with_reducible intro w3 e3); try have z3 := cutLe e3)
    | ((with_reducible intro h3); have h4 := Nat.le_of_lt h3; clear h4)))
  intro hx
  exact ⟨rfl, hx⟩
def okS (x : Ent) : Bool := decide (x.fSeen.length ≤ 8) && rising x.fSeen && !x.fSeen.any (fun s => !inB s 1 999 || decide (s = x.fId))
def okE (x : Ent) : Bool := okS x && inB x.fId 1 999 && okW x.fTitle && (decide (x.fPlace = ByteArray.empty) || okW x.fPlace) && (decide (x.fYear = 0) || inB x.fYear 1500 2100) && inB x.fCount 0 99
theorem IsEntry1_c (s : Int) (t : Tri) (p : Addr) (w : World) (hp : Row w (some p) 6 [encT t]) :
    Calls Tryz.prog 76 #[.int .i64 s, .pointer (some p)] w fun e w' => e = .returned (.bool (!inB s 1 999 || decide (s = t.1.fId))) ∧ E0 w w' := by
  refine enterK Non 13 Tryz.func76 rfl rfl rfl fun K hK => ?_
  repeat (any_goals (
    conv => whnf
    first
    | ((with_reducible refine callF (g := 51) ?_ ?_); kernel_rfl; refine ⟨_, isId_c _ _, ?_⟩; intro w4 e4; have z4 := cutLe e4)
    | ((with_reducible refine ELD.old [encT t] (encT t) hp ?_ ?_ ?_); exact mAddr_Non _; rfl)
    | ((with_reducible refine BIF.beq ?_ ?_) <;> intro _)
    | ((with_reducible refine BIF.dec ?_ ?_) <;> intro _)
    | ((with_reducible refine BIF.s ?_ ?_) <;> intro _)
    | (with_reducible refine NEXTK.normal ?_)
    | (with_reducible refine NEXTK.ret ?_)
    | (with_reducible refine NEXTK.exit ?_)
    | (with_reducible refine SEQ.plain ?_)
    | (with_reducible refine hK _ _ ?_)
    | ((with_reducible refine RUNL.agg (fun _ => ?_) ?_); (focus kernel_rfl))
    | (with_reducible refine RUNL.run ?_)
    | ((with_reducible refine AR.ok ?_ ?_); exact ⟨by first | omega | (dsimp only; omega), by first | omega | (dsimp only; omega)⟩)
    | (with_reducible refine AR.wr ?_)
    | ((with_reducible intro w3 e3); try have z3 := cutLe e3)
    | ((with_reducible intro h3); have h4 := Nat.le_of_lt h3; clear h4)))
  all_goals
    intro hx
    refine ⟨?_, hx⟩
    clear hK
    first
    | (simp_all [resV]; done)
    | (simp_all [resV]; rfl)
theorem IsEntry_c (t : Tri) (w : World) (hr : Row w t.2.1 1 (t.1.fSeen.map encI)) (hm : t.1.fSeen.length ≤ 1048577) :
    Calls Tryz.prog 45 #[.agg (encT t).toArray] w fun e w' => e = .returned (.bool (okE t.1)) ∧ E0 w w' := by
  refine enterK Non 52 Tryz.func45 rfl rfl rfl fun K hK => ?_
  repeat (any_goals (
    conv => whnf
    first
    | ((with_reducible refine callF (g := 74) ?_ ?_); kernel_rfl; refine ⟨_, isRising_c _ _ _ t.1.fSeen _ (by repeat (first | assumption | refine Row.e0 ?_ (by assumption))) rfl (by omega), ?_⟩; intro w4 e4; have z4 := cutLe e4)
    | ((with_reducible refine RUN.mk (fun _ => rfl) ?_))
    | ((with_reducible refine callXB (g := 75) ?_ ?_); kernel_rfl; intro hX hbx; refine ⟨_, ContainsFuncI_c (fun s => !inB s 1 999 || decide (s = t.1.fId)) _ _ _ t.1.fSeen _ _ _ (by repeat (first | assumption | refine Row.e0 ?_ (by assumption))) rfl (by omega) (by kernel_rfl) (fun s _ w' e => IsEntry1_c s t _ _ ((Boxes.row hbx 0 _ _ _ rfl).e0 e)), ?_⟩; intro w4 e4)
    | ((with_reducible refine callF (g := 51) ?_ ?_); kernel_rfl; refine ⟨_, isId_c _ _, ?_⟩; intro w4 e4; have z4 := cutLe e4)
    | ((with_reducible refine callF (g := 77) ?_ ?_); kernel_rfl; refine ⟨_, isWord_c _ _, ?_⟩; intro w4 e4; have z4 := cutLe e4)
    | ((with_reducible refine callF (g := 78) ?_ ?_); kernel_rfl; refine ⟨_, isYear_c _ _, ?_⟩; intro w4 e4; have z4 := cutLe e4)
    | ((with_reducible refine callF (g := 79) ?_ ?_); kernel_rfl; refine ⟨_, within_c _ _ _ _, ?_⟩; intro w4 e4; have z4 := cutLe e4)
    | ((with_reducible refine BIF.seq ?_ ?_) <;> intro _)
    | ((with_reducible refine BIF.beq ?_ ?_) <;> intro _)
    | ((with_reducible refine BIF.dec ?_ ?_) <;> intro _)
    | ((with_reducible refine BIF.s ?_ ?_) <;> intro _)
    | (with_reducible refine NEXTK.normal ?_)
    | (with_reducible refine NEXTK.ret ?_)
    | (with_reducible refine NEXTK.exit ?_)
    | (with_reducible refine SEQ.plain ?_)
    | (with_reducible refine hK _ _ ?_)
    | ((with_reducible refine RUNL.agg (fun _ => ?_) ?_); (focus kernel_rfl))
    | (with_reducible refine RUNL.run ?_)
    | ((with_reducible refine AR.ok ?_ ?_); exact ⟨by first | omega | (dsimp only; omega), by first | omega | (dsimp only; omega)⟩)
    | (with_reducible refine AR.wr ?_)
    | ((with_reducible intro w3 e3); try have z3 := cutLe e3)
    | ((with_reducible intro h3); have h4 := Nat.le_of_lt h3; clear h4)))
  all_goals
    intro hx
    refine ⟨?_, hx⟩
    clear hK
    have e0 : (⟨#[]⟩ : ByteArray) = ByteArray.empty := rfl
    by_cases h8 : t.1.fSeen.length ≤ 8
    · have hd : decide (t.1.fSeen.length ≤ 8) = true := decide_eq_true h8
      simp only [okE, okS, hd]
      generalize t.1.fSeen.any (fun s => !inB s 1 999 || decide (s = t.1.fId)) = A at *
      generalize rising t.1.fSeen = R at *
      first
      | (exfalso; omega)
      | (simp_all [resV]; done)
    · have hd : decide (t.1.fSeen.length ≤ 8) = false := decide_eq_false h8
      simp only [okE, okS, hd]
      first
      | (exfalso; omega)
      | (simp_all [resV]; done)
def knowsB (s : Int) (x : Ent) : Bool := decide (x.fId = s) || decide (s ∈ x.fSeen)
theorem knows_c (t : Tri) (s : Int) (w : World) (hr : Row w t.2.1 1 (t.1.fSeen.map encI)) (hm : t.1.fSeen.length ≤ 1048577) :
    Calls Tryz.prog 49 #[.agg (encT t).toArray, .int .i64 s] w fun e w' => e = .returned (.bool (knowsB s t.1)) ∧ E0 w w' := by
  refine enterK Non 15 Tryz.func49 rfl rfl rfl fun K hK => ?_
  repeat (any_goals (
    conv => whnf
    first
    | ((with_reducible refine callF (g := 82) ?_ ?_); kernel_rfl; refine ⟨_, ContainsI_c _ _ _ t.1.fSeen _ _ (by repeat (first | assumption | refine Row.e0 ?_ (by assumption))) rfl (by omega), ?_⟩; intro w4 e4; have z4 := cutLe e4)
    | ((with_reducible refine BIF.beq ?_ ?_) <;> intro _)
    | ((with_reducible refine BIF.dec ?_ ?_) <;> intro _)
    | ((with_reducible refine BIF.s ?_ ?_) <;> intro _)
    | (with_reducible refine NEXTK.normal ?_)
    | (with_reducible refine NEXTK.ret ?_)
    | (with_reducible refine NEXTK.exit ?_)
    | (with_reducible refine SEQ.plain ?_)
    | (with_reducible refine hK _ _ ?_)
    | ((with_reducible refine RUNL.agg (fun _ => ?_) ?_); (focus kernel_rfl))
    | (with_reducible refine RUNL.run ?_)
    | ((with_reducible refine AR.ok ?_ ?_); exact ⟨by first | omega | (dsimp only; omega), by first | omega | (dsimp only; omega)⟩)
    | (with_reducible refine AR.wr ?_)
    | ((with_reducible intro w3 e3); try have z3 := cutLe e3)
    | ((with_reducible intro h3); have h4 := Nat.le_of_lt h3; clear h4)))
  all_goals
    intro hx
    refine ⟨?_, hx⟩
    clear hK
    simp_all [resV, knowsB]
theorem l25Holds_c (t : Tri) (s : Int) (w : World) (hr : Row w t.2.1 1 (t.1.fSeen.map encI)) (hm : t.1.fSeen.length ≤ 1048577) :
    Calls Tryz.prog 84 #[.agg (encT t).toArray, .int .i64 s] w fun e w' => e = .returned (.bool (knowsB s t.1)) ∧ E0 w w' := by
  refine enterK Non 15 Tryz.func84 rfl rfl rfl fun K hK => ?_
  repeat (any_goals (
    conv => whnf
    first
    | ((with_reducible refine callF (g := 103) ?_ ?_); kernel_rfl; refine ⟨_, l1Has_c _ _ _ t.1.fSeen _ _ (by repeat (first | assumption | refine Row.e0 ?_ (by assumption))) rfl (by omega), ?_⟩; intro w4 e4; have z4 := cutLe e4)
    | ((with_reducible refine BIF.beq ?_ ?_) <;> intro _)
    | ((with_reducible refine BIF.dec ?_ ?_) <;> intro _)
    | ((with_reducible refine BIF.s ?_ ?_) <;> intro _)
    | (with_reducible refine NEXTK.normal ?_)
    | (with_reducible refine NEXTK.ret ?_)
    | (with_reducible refine NEXTK.exit ?_)
    | (with_reducible refine SEQ.plain ?_)
    | (with_reducible refine hK _ _ ?_)
    | ((with_reducible refine RUNL.agg (fun _ => ?_) ?_); (focus kernel_rfl))
    | (with_reducible refine RUNL.run ?_)
    | ((with_reducible refine AR.ok ?_ ?_); exact ⟨by first | omega | (dsimp only; omega), by first | omega | (dsimp only; omega)⟩)
    | (with_reducible refine AR.wr ?_)
    | ((with_reducible intro w3 e3); try have z3 := cutLe e3)
    | ((with_reducible intro h3); have h4 := Nat.le_of_lt h3; clear h4)))
  all_goals
    intro hx
    refine ⟨?_, hx⟩
    clear hK
    simp_all [resV, knowsB]
theorem l25One_c (t : Tri) (w : World) (hr : Row w t.2.1 1 (t.1.fSeen.map encI)) (hm : t.1.fSeen.length ≤ 1048577) (h1 : t.1.fTitle.size ≤ 9223372036854775807) (h2 : t.1.fPlace.size ≤ 9223372036854775807) :
    Calls Tryz.prog 83 #[.agg (encT t).toArray] w fun e w' => e = .returned (.bool (okE t.1)) ∧ E0 w w' := by
  refine enterK Non 58 Tryz.func83 rfl rfl rfl fun K hK => ?_
  repeat (any_goals (
    conv => whnf
    first
    | ((with_reducible refine callF (g := 102) ?_ ?_); kernel_rfl; refine ⟨_, l1Rising_c _ _ _ t.1.fSeen _ _ _ (by repeat (first | assumption | refine Row.e0 ?_ (by assumption))) rfl (by omega), ?_⟩; intro w4 e4; have z4 := cutLe e4)
    | ((with_reducible refine callF (g := 103) ?_ ?_); kernel_rfl; refine ⟨_, l1Has_c _ _ _ t.1.fSeen _ _ (by repeat (first | assumption | refine Row.e0 ?_ (by assumption))) rfl (by omega), ?_⟩; intro w4 e4; have z4 := cutLe e4)
    | ((with_reducible refine callF (g := 100) ?_ ?_); kernel_rfl; refine ⟨_, l1In_c _ _ _ _, ?_⟩; intro w4 e4; have z4 := cutLe e4)
    | ((with_reducible refine callF (g := 101) ?_ ?_); kernel_rfl; refine ⟨_, l2Word_c _ _ (by assumption), ?_⟩; intro w4 e4; have z4 := cutLe e4)
    | ((with_reducible refine BIF.sne ?_ ?_) <;> intro _)
    | ((with_reducible refine BIF.bne ?_ ?_) <;> intro _)
    | ((with_reducible refine BIF.dec ?_ ?_) <;> intro _)
    | ((with_reducible refine BIF.s ?_ ?_) <;> intro _)
    | (with_reducible refine NEXTK.normal ?_)
    | (with_reducible refine NEXTK.ret ?_)
    | (with_reducible refine NEXTK.exit ?_)
    | (with_reducible refine SEQ.plain ?_)
    | (with_reducible refine hK _ _ ?_)
    | ((with_reducible refine RUNL.agg (fun _ => ?_) ?_); (focus kernel_rfl))
    | (with_reducible refine RUNL.run ?_)
    | ((with_reducible refine AR.ok ?_ ?_); exact ⟨by first | omega | (dsimp only; omega), by first | omega | (dsimp only; omega)⟩)
    | (with_reducible refine AR.wr ?_)
    | ((with_reducible intro w3 e3); try have z3 := cutLe e3)
    | ((with_reducible intro h3); have h4 := Nat.le_of_lt h3; clear h4)))
  all_goals
    intro hx
    refine ⟨?_, hx⟩
    clear hK
    have e0 : (⟨#[]⟩ : ByteArray) = ByteArray.empty := rfl
    have hok : okS t.1 = (decide (t.1.fSeen.length ≤ 8) && (rising t.1.fSeen && t.1.fSeen.all (inB · 1 999)) && !decide (t.1.fId ∈ t.1.fSeen)) := by
      unfold okS
      rw [Bool.eq_iff_iff]
      simp only [Bool.and_eq_true, Bool.not_eq_true', List.any_eq_false, List.all_eq_true, Bool.or_eq_true, decide_eq_true_eq, decide_eq_false_iff_not, not_or]
      constructor
      · rintro ⟨⟨g1, g2⟩, g3⟩
        exact ⟨⟨g1, g2, fun x hx => by simpa using (g3 x hx).1⟩, fun h => (g3 _ h).2 rfl⟩
      · rintro ⟨⟨g1, g2, g4⟩, g3⟩
        exact ⟨⟨g1, g2⟩, fun x hx => ⟨by simpa using g4 x hx, fun h => g3 (h ▸ hx)⟩⟩
    by_cases h8 : t.1.fSeen.length ≤ 8
    · have hd : decide (t.1.fSeen.length ≤ 8) = true := decide_eq_true h8
      simp only [okE, hok, hd]
      clear hok
      generalize t.1.fSeen.all (inB · 1 999) = A at *
      generalize decide (t.1.fId ∈ t.1.fSeen) = D at *
      generalize rising t.1.fSeen = R at *
      first
      | (exfalso; omega)
      | (cases A <;> cases D <;> cases R <;> simp_all [resV]; done)
    · have hd : decide (t.1.fSeen.length ≤ 8) = false := decide_eq_false h8
      simp only [okE, hok, hd]
      clear hok
      first
      | (exfalso; omega)
      | (simp_all [resV]; done)

def gAtE (es : List Ent) (k : Nat) : Bool :=
  match es[k]? with
  | some x => okE x && (k == 0 || (match es[k - 1]? with
      | some y => decide (y.fId < x.fId)
      | none => true))
  | none => true
def seenAt (es : List Ent) (k : Nat) (s : Int) : Bool := decide (idxP (knowsB s) es = k) && !(es.drop (k + 1)).any (knowsB s)
def eAt (es : List Ent) (k : Nat) : Bool := gAtE es k && (match es[k]? with | some x => x.fSeen.all (seenAt es k) | none => true)
def eUp (es : List Ent) (k : Nat) : Bool := (List.range k).all (eAt es)
theorem eUp_succ (es : List Ent) (k : Nat) : eUp es (k + 1) = (eUp es k && eAt es k) := by simp [eUp, List.range_succ]
def areE (es : List Ent) : Bool := eUp es es.length && decide (es.length ≤ 12)
theorem areE_false {es : List Ent} {k : Nat} (hk : k < es.length) (h : eAt es k = false) : areE es = false := by
  simp only [areE, eUp, Bool.and_eq_false_iff]
  left
  rw [List.all_eq_false]
  exact ⟨k, by simpa using hk, by simp [h]⟩
theorem gAtE_get {es : List Ent} {k : Nat} {x y : Ent} (hk : 0 < k) (hx : es[k]? = some x) (hy : es[k - 1]? = some y) : gAtE es k = (okE x && decide (y.fId < x.fId)) := by
  unfold gAtE
  rw [hx, hy]
  have : (k == 0) = false := by simp; omega
  simp [this]
theorem gAtE_zero {es : List Ent} {x : Ent} (hx : es[0]? = some x) : gAtE es 0 = okE x := by
  unfold gAtE
  rw [hx]
  simp
theorem idxP_map {α β : Type} (f : α → β) (p : β → Bool) (xs : List α) : idxP (fun x => p (f x)) xs = idxP p (xs.map f) := by
  unfold idxP
  rw [List.findIdx?_map]
  rfl
theorem fst_at {ts : List Tri} {k : Nat} {t : Tri} (h : ts[k]? = some t) : (ts.map (·.1))[k]? = some t.1 := by rw [List.getElem?_map, h]; rfl
theorem entryOf1_c (t : Tri) (s : Int) (p : Addr) (w : World) (hp : Row w (some p) 1 [[.int .i64 s]]) (hr : Row w t.2.1 1 (t.1.fSeen.map encI)) (hm : t.1.fSeen.length ≤ 1048577) :
    Calls Tryz.prog 81 #[.agg (encT t).toArray, .pointer (some p)] w fun e w' => e = .returned (.bool (knowsB s t.1)) ∧ E0 w w' := by
  refine enterK Non 7 Tryz.func81 rfl rfl rfl fun K hK => ?_
  repeat (any_goals (
    conv => whnf
    first
    | ((with_reducible refine ELD.old [[.int .i64 s]] [.int .i64 s] hp ?_ ?_ ?_); exact mAddr_Non _; rfl)
    | ((with_reducible refine callF (g := 49) ?_ ?_); kernel_rfl; refine ⟨_, knows_c t s _ (by repeat (first | assumption | refine Row.e0 ?_ (by assumption))) hm, ?_⟩; intro w4 e4; have z4 := cutLe e4)
    | ((with_reducible refine BIF.dec ?_ ?_) <;> intro _)
    | ((with_reducible refine BIF.s ?_ ?_) <;> intro _)
    | (with_reducible refine NEXTK.normal ?_)
    | (with_reducible refine NEXTK.ret ?_)
    | (with_reducible refine NEXTK.exit ?_)
    | (with_reducible refine SEQ.plain ?_)
    | (with_reducible refine hK _ _ ?_)
    | ((with_reducible refine RUNL.agg (fun _ => ?_) ?_); (focus kernel_rfl))
    | (with_reducible refine RUNL.run ?_)
    | ((with_reducible refine AR.ok ?_ ?_); exact ⟨by first | omega | (dsimp only; omega), by first | omega | (dsimp only; omega)⟩)
    | (with_reducible refine AR.wr ?_)
    | ((with_reducible intro w3 e3); try have z3 := cutLe e3)
    | ((with_reducible intro h3); have h4 := Nat.le_of_lt h3; clear h4)))
  intro hx
  exact ⟨rfl, hx⟩
theorem AreEntries1_c (t : Tri) (s : Int) (p : Addr) (w : World) (hp : Row w (some p) 1 [[.int .i64 s]]) (hr : Row w t.2.1 1 (t.1.fSeen.map encI)) (hm : t.1.fSeen.length ≤ 1048577) :
    Calls Tryz.prog 48 #[.agg (encT t).toArray, .pointer (some p)] w fun e w' => e = .returned (.bool (knowsB s t.1)) ∧ E0 w w' := by
  refine enterK Non 7 Tryz.func48 rfl rfl rfl fun K hK => ?_
  repeat (any_goals (
    conv => whnf
    first
    | ((with_reducible refine ELD.old [[.int .i64 s]] [.int .i64 s] hp ?_ ?_ ?_); exact mAddr_Non _; rfl)
    | ((with_reducible refine callF (g := 49) ?_ ?_); kernel_rfl; refine ⟨_, knows_c t s _ (by repeat (first | assumption | refine Row.e0 ?_ (by assumption))) hm, ?_⟩; intro w4 e4; have z4 := cutLe e4)
    | ((with_reducible refine BIF.dec ?_ ?_) <;> intro _)
    | ((with_reducible refine BIF.s ?_ ?_) <;> intro _)
    | (with_reducible refine NEXTK.normal ?_)
    | (with_reducible refine NEXTK.ret ?_)
    | (with_reducible refine NEXTK.exit ?_)
    | (with_reducible refine SEQ.plain ?_)
    | (with_reducible refine hK _ _ ?_)
    | ((with_reducible refine RUNL.agg (fun _ => ?_) ?_); (focus kernel_rfl))
    | (with_reducible refine RUNL.run ?_)
    | ((with_reducible refine AR.ok ?_ ?_); exact ⟨by first | omega | (dsimp only; omega), by first | omega | (dsimp only; omega)⟩)
    | (with_reducible refine AR.wr ?_)
    | ((with_reducible intro w3 e3); try have z3 := cutLe e3)
    | ((with_reducible intro h3); have h4 := Nat.le_of_lt h3; clear h4)))
  intro hx
  exact ⟨rfl, hx⟩
theorem entryOf_c (a : Option Addr) (n c : Nat) (ts : List Tri) (s : Int) (w : World) (hr : Row w a 6 (ts.map encT)) (hs : SeenAt w ts) (hn : ts.length = n) (hm : n ≤ 1048577) (hz : ∀ t ∈ ts, t.1.fSeen.length ≤ 1048577) :
    Calls Tryz.prog 46 #[.slice a n c, .int .i64 s] w fun e w' => e = .returned (.int .i64 (idxP (knowsB s) (ts.map (·.1)))) ∧ E0 w w' := by
  refine enterK Non 8 Tryz.func46 rfl rfl rfl fun K hK => ?_
  repeat (any_goals (
    conv => whnf
    first
    | ((with_reducible refine RUN.mk (fun _ => rfl) ?_))
    | ((with_reducible refine callXB (g := 80) ?_ ?_); kernel_rfl; intro hX hbx; refine ⟨_, IndexFuncT_c (fun t => knowsB s t.1) _ _ _ ts _ _ _ (by repeat (first | assumption | refine Row.e0 ?_ (by assumption))) hn (by omega) (by kernel_rfl) (fun t ht w' e => entryOf1_c t s _ _ ((Boxes.row hbx 0 _ _ _ rfl).e0 e) (((hs t ht).ext hX (mAddr_Non _)).e0 e) (hz t ht)), ?_⟩; intro w4 e4)
    | ((with_reducible refine BIF.dec ?_ ?_) <;> intro _)
    | ((with_reducible refine BIF.s ?_ ?_) <;> intro _)
    | (with_reducible refine NEXTK.normal ?_)
    | (with_reducible refine NEXTK.ret ?_)
    | (with_reducible refine NEXTK.exit ?_)
    | (with_reducible refine SEQ.plain ?_)
    | (with_reducible refine hK _ _ ?_)
    | ((with_reducible refine RUNL.agg (fun _ => ?_) ?_); (focus kernel_rfl))
    | (with_reducible refine RUNL.run ?_)
    | ((with_reducible refine AR.ok ?_ ?_); exact ⟨by first | omega | (dsimp only; omega), by first | omega | (dsimp only; omega)⟩)
    | (with_reducible refine AR.wr ?_)
    | ((with_reducible intro w3 e3); try have z3 := cutLe e3)
    | ((with_reducible intro h3); have h4 := Nat.le_of_lt h3; clear h4)))
  intro hw
  refine ⟨?_, hw⟩
  rw [← idxP_map (·.1) (knowsB s) ts]
  rfl

end Go.Proofs.YtpddilkonkkppaaGreatDoor

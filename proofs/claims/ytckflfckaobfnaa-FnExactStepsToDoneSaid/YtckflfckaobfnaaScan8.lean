/- StepsToDone. -/
import Derived.Test.YtckflfckaobfnaaRows
import Derived.Test.YtckflfckaobfnaaScan7
namespace Go.Proofs.Ytckflfckaobfnaa
open Go Go.X Go.Proofs Go.ChangeShapes Go.WideShapes Go.ChangeAt Go.RowKit
open Go.ChangeMaps (open_string shut_string)
set_option maxHeartbeats 1000000
set_option maxRecDepth 20000
set_option linter.unusedVariables false
set_option linter.unusedSimpArgs false
def stepsN (j : Job) : Int := if j.fState = 3 then 0 else if j.fState = 1 then ((j.fTiles.length : Int) - j.fNext) + 1 else ((j.fTiles.length : Int) - j.fNext) + 2
def stepsP (j : Job) : Int × Bool := if goodB j then (stepsN j, true) else (0, false)
theorem StepsToDone_c (j : Job) (a : Option Addr) (n c : Nat) (w : World) (hr : Row w a 1 (j.fTiles.map encI)) (hn : j.fTiles.length = n) (hm : n ≤ 4611686018427387904) (hc : n ≤ c ∧ c < 9223372036854775808) :
    Calls Try.prog 20 #[.agg (encJob j a n c).toArray] w fun e w' => e = .returned (.tuple #[.int .i64 (stepsP j).1, .bool (stepsP j).2]) ∧ E0 w w' := by
  have htl := tkI_le j.fTiles
  refine enterK Non 24 Try.func20 rfl rfl rfl fun K hK => ?_
  cases hg : goodB j with
  | true =>
    have hs := goodB_spec hg
    have hf : stepsP j = (stepsN j, true) := by simp [stepsP, hg]
    repeat (any_goals (
      conv => whnf
      first
      | ((with_reducible refine callF (g := 16) ?_ ?_); kernel_rfl; refine ⟨_, IsScanJob_c j _ _ _ _ (by repeat (first | assumption | refine Row.e0 ?_ (by assumption))) hn hm hc, ?_⟩; intro w4 e4; have z4 := cutLe e4)
      | ((exfalso; clear hK; simp_all; done))
      | ((with_reducible refine BIF.dec ?_ ?_) <;> intro _)
      | ((with_reducible refine BIF.s ?_ ?_) <;> intro _)
      | (with_reducible refine NEXTK.normal ?_)
      | (with_reducible refine NEXTK.ret ?_)
      | (with_reducible refine NEXTK.exit ?_)
      | (with_reducible refine SEQ.plain ?_)
      | (with_reducible refine hK _ _ ?_)
      | ((with_reducible refine AR.ok ?_ ?_); exact ⟨by first | omega | (dsimp only; omega), by first | omega | (dsimp only; omega)⟩)
      | (with_reducible refine AR.wr ?_)
      | ((with_reducible intro w3 e3); try have z3 := cutLe e3)
      | ((with_reducible intro h3); have h4 := Nat.le_of_lt h3; clear h4)))
    all_goals
      intro hx'
      refine ⟨?_, hx'⟩
      rw [hf]
      have hq : stepsN j = (if j.fState = 3 then 0 else if j.fState = 1 then ((j.fTiles.length : Int) - j.fNext) + 1 else ((j.fTiles.length : Int) - j.fNext) + 2) := rfl
      rcases (by omega : j.fState = 0 ∨ j.fState = 1 ∨ j.fState = 2 ∨ j.fState = 3) with h | h | h | h
      all_goals first
        | (exfalso; clear hK; simp_all; done)
        | (simp [h] at hq; rw [hq, hn]; rfl)
        | (simp [h] at hq; rw [hq]; rfl)
  | false =>
    have hf : stepsP j = (0, false) := by simp [stepsP, hg]
    repeat (any_goals (
      conv => whnf
      first
      | ((with_reducible refine callF (g := 16) ?_ ?_); kernel_rfl; refine ⟨_, IsScanJob_c j _ _ _ _ (by repeat (first | assumption | refine Row.e0 ?_ (by assumption))) hn hm hc, ?_⟩; intro w4 e4; have z4 := cutLe e4)
      | ((exfalso; clear hK; simp_all; done))
      | ((with_reducible refine BIF.dec ?_ ?_) <;> intro _)
      | ((with_reducible refine BIF.s ?_ ?_) <;> intro _)
      | (with_reducible refine NEXTK.normal ?_)
      | (with_reducible refine NEXTK.ret ?_)
      | (with_reducible refine NEXTK.exit ?_)
      | (with_reducible refine SEQ.plain ?_)
      | (with_reducible refine hK _ _ ?_)
      | ((with_reducible refine AR.ok ?_ ?_); exact ⟨by first | omega | (dsimp only; omega), by first | omega | (dsimp only; omega)⟩)
      | (with_reducible refine AR.wr ?_)
      | ((with_reducible intro w3 e3); try have z3 := cutLe e3)
      | ((with_reducible intro h3); have h4 := Nat.le_of_lt h3; clear h4)))
    all_goals
      intro hx'
      refine ⟨?_, hx'⟩
      rw [hf]; rfl
theorem StepsToDoneS_c (j : Job) (a : Option Addr) (n c : Nat) (w : World) (hr : Row w a 1 (j.fTiles.map encI)) (hn : j.fTiles.length = n) (hm : n ≤ 4611686018427387904) :
    Calls Try.prog 19 #[.agg (encJob j a n c).toArray] w fun e w' => e = .returned (.tuple #[.int .i64 (stepsP j).1, .bool (stepsP j).2]) ∧ E0 w w' := by
  have htl := tkI_le j.fTiles
  refine enterK Non 25 Try.func19 rfl rfl rfl fun K hK => ?_
  cases hg : goodB j with
  | true =>
    have hs := goodB_spec hg
    have hf : stepsP j = (stepsN j, true) := by simp [stepsP, hg]
    obtain ⟨k, hk⟩ : ∃ k : Nat, j.fState = k := ⟨j.fState.toNat, by omega⟩
    obtain ⟨L, hL⟩ : ∃ L : Int, L = (n : Int) - j.fNext := ⟨_, rfl⟩
    obtain ⟨x, hx⟩ : ∃ x, ([L + 2, L + 1, L + 2, 0] : List Int)[k]? = some x := ⟨_, List.getElem?_eq_getElem (by simp; omega)⟩
    have hxs : x = stepsN j := by
      unfold stepsN
      rw [hn, ← hL]
      rcases (by omega : k = 0 ∨ k = 1 ∨ k = 2 ∨ k = 3) with h | h | h | h <;> subst h <;> simp at hx <;> simp [hk, ← hx]
    subst hL
    repeat (any_goals (
      conv => whnf
      first
      | ((with_reducible refine callF (g := 29) ?_ ?_); kernel_rfl; refine ⟨_, l29Good_c j _ _ _ _ (by repeat (first | assumption | refine Row.e0 ?_ (by assumption))) hn hm, ?_⟩; intro w4 e4; have z4 := cutLe e4)
      | ((exfalso; clear hK; simp_all; done))
      | ((with_reducible refine BIF.dec ?_ ?_) <;> intro _)
      | ((with_reducible refine BIF.s ?_ ?_) <;> intro _)
      | (with_reducible refine NEXTK.normal ?_)
      | (with_reducible refine NEXTK.ret ?_)
      | (with_reducible refine NEXTK.exit ?_)
      | (with_reducible refine SEQ.plain ?_)
      | (with_reducible refine hK _ _ ?_)
      | ((with_reducible refine AR.ok ?_ ?_); exact ⟨by first | omega | (dsimp only; omega), by first | omega | (dsimp only; omega)⟩)
      | (with_reducible refine AR.wr ?_)
      | ((with_reducible intro w3 e3); try have z3 := cutLe e3)
      | ((with_reducible intro h3); have h4 := Nat.le_of_lt h3; clear h4)))
    conv => whnf
    refine bsS elemI [.int .i64 ((n : Int) - j.fNext + 2), .int .i64 ((n : Int) - j.fNext + 1), .int .i64 ((n : Int) - j.fNext + 2), .int .i64 0] rfl rfl (by intro v hv; simp only [List.mem_cons, List.not_mem_nil, or_false] at hv; rcases hv with rfl | rfl | rfl | rfl <;> rfl) (by omega) (fun w9 e9 oB => ?_)
    have z9 := cutLe e9
    replace oB : Own w9 w4.heap.size 3 1 (.slice (some ⟨w4.heap.size, 0, none⟩) 4 4) (([(n : Int) - j.fNext + 2, (n : Int) - j.fNext + 1, (n : Int) - j.fNext + 2, 0] : List Int).map encI) := oB
    have hk4 : k < ([(n : Int) - j.fNext + 2, (n : Int) - j.fNext + 1, (n : Int) - j.fNext + 2, 0] : List Int).length := by show k < 4; omega
    repeat (any_goals (
      conv => whnf
      first
      | ((with_reducible refine OBL.mk ?_ (fun _ => ?_)); exact ⟨by omega, by omega, rfl⟩)
      | ((with_reducible refine ELD.atNow (enc := encI) (xs := [(n : Int) - j.fNext + 2, (n : Int) - j.fNext + 1, (n : Int) - j.fNext + 2, 0]) k oB.row.1 ?_ ?_ (fun x' hx' => ?_)); (first | rfl | omega); (exact hk4); obtain rfl : x = x' := by (rw [hx] at hx'; exact Option.some.inj hx'))
      | ((with_reducible refine BIF.dec ?_ ?_) <;> intro _)
      | ((with_reducible refine BIF.s ?_ ?_) <;> intro _)
      | (with_reducible refine NEXTK.normal ?_)
      | (with_reducible refine NEXTK.ret ?_)
      | (with_reducible refine NEXTK.exit ?_)
      | (with_reducible refine SEQ.plain ?_)
      | (with_reducible refine hK _ _ ?_)
      | ((with_reducible refine AR.ok ?_ ?_); exact ⟨by first | omega | (dsimp only; omega), by first | omega | (dsimp only; omega)⟩)
      | (with_reducible refine AR.wr ?_)
      | ((with_reducible intro w3 e3); try have z3 := cutLe e3)
      | ((with_reducible intro h3); have h4 := Nat.le_of_lt h3; clear h4)))
    all_goals
      intro hx'
      refine ⟨?_, hx'⟩
      rw [hf, ← hxs]; rfl
  | false =>
    have hf : stepsP j = (0, false) := by simp [stepsP, hg]
    repeat (any_goals (
      conv => whnf
      first
      | ((with_reducible refine callF (g := 29) ?_ ?_); kernel_rfl; refine ⟨_, l29Good_c j _ _ _ _ (by repeat (first | assumption | refine Row.e0 ?_ (by assumption))) hn hm, ?_⟩; intro w4 e4; have z4 := cutLe e4)
      | ((exfalso; clear hK; simp_all; done))
      | ((with_reducible refine BIF.dec ?_ ?_) <;> intro _)
      | ((with_reducible refine BIF.s ?_ ?_) <;> intro _)
      | (with_reducible refine NEXTK.normal ?_)
      | (with_reducible refine NEXTK.ret ?_)
      | (with_reducible refine NEXTK.exit ?_)
      | (with_reducible refine SEQ.plain ?_)
      | (with_reducible refine hK _ _ ?_)
      | ((with_reducible refine AR.ok ?_ ?_); exact ⟨by first | omega | (dsimp only; omega), by first | omega | (dsimp only; omega)⟩)
      | (with_reducible refine AR.wr ?_)
      | ((with_reducible intro w3 e3); try have z3 := cutLe e3)
      | ((with_reducible intro h3); have h4 := Nat.le_of_lt h3; clear h4)))
    all_goals
      intro hx'
      refine ⟨?_, hx'⟩
      rw [hf]; rfl

end Go.Proofs.Ytckflfckaobfnaa

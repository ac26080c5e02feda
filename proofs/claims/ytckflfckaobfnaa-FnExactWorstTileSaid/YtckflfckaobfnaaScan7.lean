/- TilesLeft. -/
import Derived.Test.YtckflfckaobfnaaRows
import Derived.Test.YtckflfckaobfnaaScan6
namespace Go.Proofs.Ytckflfckaobfnaa
open Go Go.X Go.Proofs Go.ChangeShapes Go.WideShapes Go.ChangeAt Go.RowKit
open Go.ChangeMaps (open_string shut_string)
set_option maxHeartbeats 1000000
set_option maxRecDepth 20000
set_option linter.unusedVariables false
set_option linter.unusedSimpArgs false
theorem goodB_spec {j : Job} (h : goodB j = true) : (1 ≤ j.fTiles.length ∧ j.fTiles.length ≤ 8) ∧ (0 ≤ j.fState ∧ j.fState ≤ 3) ∧ j.fNext = tkI j.fTiles := by
  simp only [goodB, Bool.and_eq_true, decide_eq_true_eq] at h
  have h1 := inB_iff.1 h.1.1.1.1.1.1.1
  have h2 := inB_iff.1 h.1.1.1.1.1.1.2
  exact ⟨by omega, h2, h.1.1.2⟩
def leftP (j : Job) : Int × Bool := if goodB j then ((j.fTiles.length : Int) - j.fNext, true) else (0, false)
theorem TilesLeftS_c (j : Job) (a : Option Addr) (n c : Nat) (w : World) (hr : Row w a 1 (j.fTiles.map encI)) (hn : j.fTiles.length = n) (hm : n ≤ 4611686018427387904) :
    Calls Try.prog 17 #[.agg (encJob j a n c).toArray] w fun e w' => e = .returned (.tuple #[.int .i64 (leftP j).1, .bool (leftP j).2]) ∧ E0 w w' := by
  have htl := tkI_le j.fTiles
  refine enterK Non 13 Try.func17 rfl rfl rfl fun K hK => ?_
  cases hg : goodB j with
  | true =>
    have hs := goodB_spec hg
    have hf : leftP j = ((j.fTiles.length : Int) - j.fNext, true) := by simp [leftP, hg]
    repeat (any_goals (
      conv => whnf
      first
      | ((with_reducible refine callF (g := 29) ?_ ?_); kernel_rfl; refine ⟨_, l29Good_c j _ _ _ _ (by repeat (first | assumption | refine Row.e0 ?_ (by assumption))) hn hm, ?_⟩; intro w4 e4; have z4 := cutLe e4)
      | ((exfalso; clear hK; simp_all; done))
      | ((with_reducible refine BIF.dec ?_ ?_) <;> intro _)
      | ((with_reducible refine BIF.s ?_ ?_) <;> intro _)
      | (with_reducible refine NEXTK.normal ?_)
      | (with_reducible refine NEXTK.ret ?_)
      | (with_reducible refine NEXTK.exit ?_)
      | (with_reducible refine SEQ.plain ?_)
      | (with_reducible refine hK _ _ ?_)
      | ((with_reducible refine AR.ok ?_ ?_); exact ⟨by first | omega | (dsimp only; omega), by first | omega | (dsimp only; omega)⟩)
      | (with_reducible refine AR.wr ?_)
      | ((with_reducible intro w3 e3); try have z3 := cutLe e3)
      | ((with_reducible intro h3); have h4 := Nat.le_of_lt h3; clear h4)))
    all_goals
      intro hx'
      refine ⟨?_, hx'⟩
      rw [hf, hn]; rfl
  | false =>
    have hf : leftP j = (0, false) := by simp [leftP, hg]
    repeat (any_goals (
      conv => whnf
      first
      | ((with_reducible refine callF (g := 29) ?_ ?_); kernel_rfl; refine ⟨_, l29Good_c j _ _ _ _ (by repeat (first | assumption | refine Row.e0 ?_ (by assumption))) hn hm, ?_⟩; intro w4 e4; have z4 := cutLe e4)
      | ((exfalso; clear hK; simp_all; done))
      | ((with_reducible refine BIF.dec ?_ ?_) <;> intro _)
      | ((with_reducible refine BIF.s ?_ ?_) <;> intro _)
      | (with_reducible refine NEXTK.normal ?_)
      | (with_reducible refine NEXTK.ret ?_)
      | (with_reducible refine NEXTK.exit ?_)
      | (with_reducible refine SEQ.plain ?_)
      | (with_reducible refine hK _ _ ?_)
      | ((with_reducible refine AR.ok ?_ ?_); exact ⟨by first | omega | (dsimp only; omega), by first | omega | (dsimp only; omega)⟩)
      | (with_reducible refine AR.wr ?_)
      | ((with_reducible intro w3 e3); try have z3 := cutLe e3)
      | ((with_reducible intro h3); have h4 := Nat.le_of_lt h3; clear h4)))
    all_goals
      intro hx'
      refine ⟨?_, hx'⟩
      rw [hf]; rfl
theorem TilesLeft_c (j : Job) (a : Option Addr) (n c : Nat) (w : World) (hr : Row w a 1 (j.fTiles.map encI)) (hn : j.fTiles.length = n) (hm : n ≤ 4611686018427387904) (hc : n ≤ c ∧ c < 9223372036854775808) :
    Calls Try.prog 18 #[.agg (encJob j a n c).toArray] w fun e w' => e = .returned (.tuple #[.int .i64 (leftP j).1, .bool (leftP j).2]) ∧ E0 w w' := by
  have htl := tkI_le j.fTiles
  refine enterK Non 13 Try.func18 rfl rfl rfl fun K hK => ?_
  cases hg : goodB j with
  | true =>
    have hs := goodB_spec hg
    have hf : leftP j = ((j.fTiles.length : Int) - j.fNext, true) := by simp [leftP, hg]
    repeat (any_goals (
      conv => whnf
      first
      | ((with_reducible refine callF (g := 16) ?_ ?_); kernel_rfl; refine ⟨_, IsScanJob_c j _ _ _ _ (by repeat (first | assumption | refine Row.e0 ?_ (by assumption))) hn hm hc, ?_⟩; intro w4 e4; have z4 := cutLe e4)
      | ((exfalso; clear hK; simp_all; done))
      | ((with_reducible refine BIF.dec ?_ ?_) <;> intro _)
      | ((with_reducible refine BIF.s ?_ ?_) <;> intro _)
      | (with_reducible refine NEXTK.normal ?_)
      | (with_reducible refine NEXTK.ret ?_)
      | (with_reducible refine NEXTK.exit ?_)
      | (with_reducible refine SEQ.plain ?_)
      | (with_reducible refine hK _ _ ?_)
      | ((with_reducible refine AR.ok ?_ ?_); exact ⟨by first | omega | (dsimp only; omega), by first | omega | (dsimp only; omega)⟩)
      | (with_reducible refine AR.wr ?_)
      | ((with_reducible intro w3 e3); try have z3 := cutLe e3)
      | ((with_reducible intro h3); have h4 := Nat.le_of_lt h3; clear h4)))
    all_goals
      intro hx'
      refine ⟨?_, hx'⟩
      rw [hf, hn]; rfl
  | false =>
    have hf : leftP j = (0, false) := by simp [leftP, hg]
    repeat (any_goals (
      conv => whnf
      first
      | ((with_reducible refine callF (g := 16) ?_ ?_); kernel_rfl; refine ⟨_, IsScanJob_c j _ _ _ _ (by repeat (first | assumption | refine Row.e0 ?_ (by assumption))) hn hm hc, ?_⟩; intro w4 e4; have z4 := cutLe e4)
      | ((exfalso; clear hK; simp_all; done))
      | ((with_reducible refine BIF.dec ?_ ?_) <;> intro _)
      | ((with_reducible refine BIF.s ?_ ?_) <;> intro _)
      | (with_reducible refine NEXTK.normal ?_)
      | (with_reducible refine NEXTK.ret ?_)
      | (with_reducible refine NEXTK.exit ?_)
      | (with_reducible refine SEQ.plain ?_)
      | (with_reducible refine hK _ _ ?_)
      | ((with_reducible refine AR.ok ?_ ?_); exact ⟨by first | omega | (dsimp only; omega), by first | omega | (dsimp only; omega)⟩)
      | (with_reducible refine AR.wr ?_)
      | ((with_reducible intro w3 e3); try have z3 := cutLe e3)
      | ((with_reducible intro h3); have h4 := Nat.le_of_lt h3; clear h4)))
    all_goals
      intro hx'
      refine ⟨?_, hx'⟩
      rw [hf]; rfl

end Go.Proofs.Ytckflfckaobfnaa

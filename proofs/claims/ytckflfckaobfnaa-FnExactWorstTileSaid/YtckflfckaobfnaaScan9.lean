/- WorstTile. -/
import Derived.Test.YtckflfckaobfnaaRows
import Derived.Test.YtckflfckaobfnaaScan7
namespace Go.Proofs.Ytckflfckaobfnaa
open Go Go.X Go.Proofs Go.ChangeShapes Go.WideShapes Go.ChangeAt Go.RowKit
open Go.ChangeMaps (open_string shut_string)
set_option maxHeartbeats 1000000
set_option maxRecDepth 20000
set_option linter.unusedVariables false
set_option linter.unusedSimpArgs false
def gD (xs : List Int) (i : Nat) : Int := (xs[i]?).getD 0
def wb (xs : List Int) : Nat → Nat
  | 0 => 0
  | k + 1 => if gD xs k < gD xs (wb xs k) then k else wb xs k
theorem wb_ok (xs : List Int) : ∀ k, 1 ≤ k → wb xs k < k ∧ (∀ q, q < k → gD xs (wb xs k) ≤ gD xs q) ∧ (∀ q, q < wb xs k → gD xs (wb xs k) < gD xs q)
  | 0, h => by omega
  | k + 1, _ => by
    by_cases h0 : k = 0
    · subst h0
      have : wb xs 1 = 0 := by simp [wb]
      rw [this]
      refine ⟨by omega, fun q hq => ?_, fun q hq => by omega⟩
      obtain rfl : q = 0 := by omega
      exact Int.le_refl _
    · obtain ⟨i1, i2, i3⟩ := wb_ok xs k (by omega)
      by_cases h : gD xs k < gD xs (wb xs k)
      · have : wb xs (k + 1) = k := by simp [wb, h]
        rw [this]
        refine ⟨by omega, fun q hq => ?_, fun q hq => ?_⟩
        · rcases Nat.lt_or_ge q k with hk | hk
          · have := i2 q hk; omega
          · obtain rfl : q = k := by omega
            exact Int.le_refl _
        · have := i2 q hq; omega
      · have : wb xs (k + 1) = wb xs k := by simp [wb, h]
        rw [this]
        refine ⟨by omega, fun q hq => ?_, i3⟩
        rcases Nat.lt_or_ge q k with hk | hk
        · exact i2 q hk
        · obtain rfl : q = k := by omega
          omega
theorem gD_take (xs : List Int) {k q : Nat} (h : q < k) : gD (xs.take k) q = gD xs q := by
  unfold gD
  rw [List.getElem?_take, if_pos h]
theorem wb_take (xs : List Int) (k : Nat) : ∀ i, i ≤ k → wb (xs.take k) i = wb xs i
  | 0, _ => rfl
  | i + 1, h => by
    have ih := wb_take xs k i (by omega)
    simp only [wb, ih]
    rcases Nat.eq_zero_or_pos i with h0 | h0
    · subst h0; simp [wb]
    · have := (wb_ok xs i h0).1
      rw [gD_take xs (by omega), gD_take xs (by omega)]
theorem gD_at {xs : List Int} {k : Nat} {x : Int} (h : xs[k]? = some x) : gD xs k = x := by simp [gD, h]
theorem gD_get {xs : List Int} {k : Nat} (h : k < xs.length) : xs[k]? = some (gD xs k) := by simp [gD, h]
def worstP (j : Job) : Int × Int × Bool := if goodB j = true ∧ j.fNext ≠ 0 then ((wb j.fTiles (tkI j.fTiles) : Int), gD j.fTiles (wb j.fTiles (tkI j.fTiles)), true) else (0, 0, false)
theorem MinI_c (a : Option Addr) (n c : Nat) (xs : List Int) (w : World) (hr : Row w a 1 (xs.map encI)) (hn : xs.length = n) (hp : 1 ≤ n) (hm : n ≤ 4611686018427387904) :
    Calls Try.prog 35 #[.slice a n c] w fun e w' => e = .returned (.int .i64 (gD xs (wb xs n))) ∧ E0 w w' := by
  refine enterK Non 25 Try.func35 rfl rfl rfl fun K hK => ?_
  have his := hr.isSome (by simp; omega)
  have h0l : 0 < xs.length := by omega
  have hx0 := gD_get h0l
  have hw1 : gD xs (wb xs 1) = gD xs 0 := by simp [wb]
  repeat (any_goals (
    conv => whnf
    first
    | ((exfalso; omega))
    | ((with_reducible refine OBL.mk ?_ (fun _ => ?_)); exact ⟨by first | omega | (dsimp only; omega), by first | omega | (dsimp only; omega), his⟩)
    | ((with_reducible refine ELD.at (0) hr ?_ ?_ ?_ (fun x' hx' => ?_)); exact mAddr_Non _; (first | rfl | omega); exact h0l; obtain rfl : gD xs 0 = x' := by (rw [hx0] at hx'; exact Option.some.inj hx'))
    | ((with_reducible refine BIF.dec ?_ ?_) <;> intro _)
    | ((with_reducible refine BIF.s ?_ ?_) <;> intro _)
    | (with_reducible refine NEXTK.normal ?_)
    | (with_reducible refine NEXTK.ret ?_)
    | (with_reducible refine NEXTK.exit ?_)
    | (with_reducible refine SEQ.plain ?_)
    | (with_reducible refine hK _ _ ?_)
    | ((with_reducible refine AR.ok ?_ ?_); exact ⟨by first | omega | (dsimp only; omega), by first | omega | (dsimp only; omega)⟩)
    | (with_reducible refine AR.wr ?_)
    | ((with_reducible intro w3 e3); try have z3 := cutLe e3)
    | ((with_reducible intro h3); have h4 := Nat.le_of_lt h3; clear h4)))
  conv => whnf
  refine LOOP.mk Nat (fun k => [(4, .v (.int .i64 k)), (3, .v (.int .i64 (gD xs (wb xs k))))]) (fun k _ => 1 ≤ k ∧ k ≤ n) (fun k => n - k) 1 rfl ⟨rfl, ?_, trivial⟩ ⟨Nat.le_refl _, hp⟩ ?_
  · rw [hw1]; rfl
  rintro k wr - ⟨hk1, hk⟩
  conv => whnf
  repeat (first | ((with_reducible refine NEXTK.normal ?_); conv => whnf) | ((with_reducible refine NEXTK.exit ?_); conv => whnf) | ((with_reducible refine NEXTK.ret ?_); conv => whnf) | ((with_reducible refine SEQ.plain ?_); conv => whnf) | ((with_reducible refine AR.ok ?_ ?_); exact ⟨by omega, by omega⟩; conv => whnf))
  refine BIF.dec (fun hlt => ?_) (fun hlt => ?_)
  · have hlt' : k < xs.length := by omega
    have hx := gD_get hlt'
    repeat (any_goals (
      conv => whnf
      first
      | ((with_reducible refine OBL.mk ?_ (fun _ => ?_)); exact ⟨by first | omega | (dsimp only; omega), by first | omega | (dsimp only; omega), his⟩)
      | ((with_reducible refine ELD.at (k) hr ?_ ?_ ?_ (fun x' hx' => ?_)); exact mAddr_Non _; (first | rfl | omega); exact hlt'; obtain rfl : gD xs k = x' := by (rw [hx] at hx'; exact Option.some.inj hx'))
      | ((with_reducible refine BIF.dec ?_ ?_) <;> intro _)
      | ((with_reducible refine BIF.s ?_ ?_) <;> intro _)
      | (with_reducible refine NEXTK.normal ?_)
      | (with_reducible refine NEXTK.ret ?_)
      | (with_reducible refine NEXTK.exit ?_)
      | (with_reducible refine SEQ.plain ?_)
      | (with_reducible refine hK _ _ ?_)
      | ((with_reducible refine AR.ok ?_ ?_); exact ⟨by first | omega | (dsimp only; omega), by first | omega | (dsimp only; omega)⟩)
      | (with_reducible refine AR.wr ?_)
      | ((with_reducible intro w3 e3); try have z3 := cutLe e3)
      | ((with_reducible intro h3); have h4 := Nat.le_of_lt h3; clear h4)))
    refine ⟨k + 1, rfl, ⟨rfl, ?_, trivial⟩, rfl, rfl, ⟨by omega, by omega⟩, by omega⟩
    refine congrArg (fun z => TV.v (Value.int IntKind.i64 z)) ?_
    simp only [wb]
    split <;> omega
  · obtain rfl : k = n := by omega
    repeat (any_goals (
      conv => whnf
      first
      | ((with_reducible refine BIF.dec ?_ ?_) <;> intro _)
      | ((with_reducible refine BIF.s ?_ ?_) <;> intro _)
      | (with_reducible refine NEXTK.normal ?_)
      | (with_reducible refine NEXTK.ret ?_)
      | (with_reducible refine NEXTK.exit ?_)
      | (with_reducible refine SEQ.plain ?_)
      | (with_reducible refine hK _ _ ?_)
      | ((with_reducible refine AR.ok ?_ ?_); exact ⟨by first | omega | (dsimp only; omega), by first | omega | (dsimp only; omega)⟩)
      | (with_reducible refine AR.wr ?_)
      | ((with_reducible intro w3 e3); try have z3 := cutLe e3)
      | ((with_reducible intro h3); have h4 := Nat.le_of_lt h3; clear h4)))
    intro hx
    exact ⟨rfl, hx⟩
theorem WorstTile_c (j : Job) (a : Option Addr) (n c : Nat) (w : World) (hr : Row w a 1 (j.fTiles.map encI)) (hn : j.fTiles.length = n) (hm : n ≤ 4611686018427387904) (hc : n ≤ c ∧ c < 9223372036854775808) :
    Calls Try.prog 22 #[.agg (encJob j a n c).toArray] w fun e w' => e = .returned (.tuple #[.int .i64 (worstP j).1, .int .i64 (worstP j).2.1, .bool (worstP j).2.2]) ∧ E0 w w' := by
  have htl := tkI_le j.fTiles
  refine enterK Non 25 Try.func22 rfl rfl rfl fun K hK => ?_
  by_cases hg : goodB j = true ∧ j.fNext ≠ 0
  · obtain ⟨hg1, hg2⟩ := hg
    have hs := goodB_spec hg1
    have hw := wb_ok j.fTiles (tkI j.fTiles) (by omega)
    have hf : worstP j = ((wb j.fTiles (tkI j.fTiles) : Int), gD j.fTiles (wb j.fTiles (tkI j.fTiles)), true) := by
      unfold worstP; rw [if_pos ⟨hg1, hg2⟩]
    have hs2 := hr.sub 0 j.fNext c (by omega)
    have htk : (j.fTiles.drop (Int.toNat 0)).take (j.fNext.toNat - Int.toNat 0) = j.fTiles.take (tkI j.fTiles) := by
      rw [hs.2.2]; simp
    rw [htk] at hs2
    have hmn : gD (j.fTiles.take (tkI j.fTiles)) (wb (j.fTiles.take (tkI j.fTiles)) (j.fNext.toNat - Int.toNat 0)) = gD j.fTiles (wb j.fTiles (tkI j.fTiles)) := by
      rw [show j.fNext.toNat - Int.toNat 0 = tkI j.fTiles from by rw [hs.2.2]; simp, wb_take _ _ _ (Nat.le_refl _), gD_take _ hw.1]
    have hq1 : (j.fTiles.take (tkI j.fTiles)).length = j.fNext.toNat - Int.toNat 0 := by rw [hs.2.2]; simp; omega
    have hq2 : 1 ≤ j.fNext.toNat - Int.toNat 0 := by rw [hs.2.2]; simp; omega
    have hq3 : j.fNext.toNat - Int.toNat 0 ≤ 4611686018427387904 := by rw [hs.2.2]; simp; omega
    have hix : idxP (fun x => x == gD j.fTiles (wb j.fTiles (tkI j.fTiles))) j.fTiles = (wb j.fTiles (tkI j.fTiles) : Nat) :=
      idxP_hit (gD_get (by omega)) (by simp) fun q y hq hy => by
        have := hw.2.2 q hq
        rw [gD_at hy] at this
        simp; omega
    repeat (any_goals (
      conv => whnf
      first
      | ((with_reducible refine callF (g := 16) ?_ ?_); kernel_rfl; refine ⟨_, IsScanJob_c j _ _ _ _ (by repeat (first | assumption | refine Row.e0 ?_ (by assumption))) hn hm hc, ?_⟩; intro w4 e4; have z4 := cutLe e4)
      | ((exfalso; clear hK; simp_all; done))
      | ((with_reducible refine OBL.mk ?_ (fun _ => ?_)); omega)
      | ((with_reducible refine callF (g := 35) ?_ ?_); kernel_rfl; refine ⟨_, MinI_c _ _ _ (j.fTiles.take (tkI j.fTiles)) _ (by repeat (first | assumption | refine Row.e0 ?_ (by assumption))) hq1 hq2 hq3, ?_⟩; intro w4 e4; have z4 := cutLe e4)
      | ((with_reducible refine callF (g := 36) ?_ ?_); kernel_rfl; refine ⟨_, IndexI_c _ _ _ _ j.fTiles _ (by repeat (first | assumption | refine Row.e0 ?_ (by assumption))) hn hm, ?_⟩; intro w4 e4; have z4 := cutLe e4)
      | ((with_reducible refine BIF.dec ?_ ?_) <;> intro _)
      | ((with_reducible refine BIF.s ?_ ?_) <;> intro _)
      | (with_reducible refine NEXTK.normal ?_)
      | (with_reducible refine NEXTK.ret ?_)
      | (with_reducible refine NEXTK.exit ?_)
      | (with_reducible refine SEQ.plain ?_)
      | (with_reducible refine hK _ _ ?_)
      | ((with_reducible refine AR.ok ?_ ?_); exact ⟨by first | omega | (dsimp only; omega), by first | omega | (dsimp only; omega)⟩)
      | (with_reducible refine AR.wr ?_)
      | ((with_reducible intro w3 e3); try have z3 := cutLe e3)
      | ((with_reducible intro h3); have h4 := Nat.le_of_lt h3; clear h4)))
    all_goals
      intro hx'
      refine ⟨?_, hx'⟩
      rw [hmn, hix, hf]; rfl
  · have hf : worstP j = (0, 0, false) := by unfold worstP; rw [if_neg hg]
    repeat (any_goals (
      conv => whnf
      first
      | ((with_reducible refine callF (g := 16) ?_ ?_); kernel_rfl; refine ⟨_, IsScanJob_c j _ _ _ _ (by repeat (first | assumption | refine Row.e0 ?_ (by assumption))) hn hm hc, ?_⟩; intro w4 e4; have z4 := cutLe e4)
      | ((exfalso; clear hK; simp_all; done))
      | ((with_reducible refine BIF.dec ?_ ?_) <;> intro _)
      | ((with_reducible refine BIF.s ?_ ?_) <;> intro _)
      | (with_reducible refine NEXTK.normal ?_)
      | (with_reducible refine NEXTK.ret ?_)
      | (with_reducible refine NEXTK.exit ?_)
      | (with_reducible refine SEQ.plain ?_)
      | (with_reducible refine hK _ _ ?_)
      | ((with_reducible refine AR.ok ?_ ?_); exact ⟨by first | omega | (dsimp only; omega), by first | omega | (dsimp only; omega)⟩)
      | (with_reducible refine AR.wr ?_)
      | ((with_reducible intro w3 e3); try have z3 := cutLe e3)
      | ((with_reducible intro h3); have h4 := Nat.le_of_lt h3; clear h4)))
    all_goals
      intro hx'
      refine ⟨?_, hx'⟩
      rw [hf]; rfl
theorem WorstTileS_c (j : Job) (a : Option Addr) (n c : Nat) (w : World) (hr : Row w a 1 (j.fTiles.map encI)) (hn : j.fTiles.length = n) (hm : n ≤ 4611686018427387904) :
    Calls Try.prog 21 #[.agg (encJob j a n c).toArray] w fun e w' => e = .returned (.tuple #[.int .i64 (worstP j).1, .int .i64 (worstP j).2.1, .bool (worstP j).2.2]) ∧ E0 w w' := by
  have htl := tkI_le j.fTiles
  refine enterK Non 39 Try.func21 rfl rfl rfl fun K hK => ?_
  by_cases hg : goodB j = true ∧ j.fNext ≠ 0
  · obtain ⟨hg1, hg2⟩ := hg
    have hs := goodB_spec hg1
    have hf : worstP j = ((wb j.fTiles (tkI j.fTiles) : Int), gD j.fTiles (wb j.fTiles (tkI j.fTiles)), true) := by
      unfold worstP; rw [if_pos ⟨hg1, hg2⟩]
    have hw1 : wb j.fTiles 1 = 0 := by simp [wb]
    have his := hr.isSome (by simp; omega)
    repeat (any_goals (
      conv => whnf
      first
      | ((with_reducible refine callF (g := 29) ?_ ?_); kernel_rfl; refine ⟨_, l29Good_c j _ _ _ _ (by repeat (first | assumption | refine Row.e0 ?_ (by assumption))) hn hm, ?_⟩; intro w4 e4; have z4 := cutLe e4)
      | ((exfalso; clear hK; simp_all; done))
      | ((with_reducible refine BIF.dec ?_ ?_) <;> intro _)
      | ((with_reducible refine BIF.s ?_ ?_) <;> intro _)
      | (with_reducible refine NEXTK.normal ?_)
      | (with_reducible refine NEXTK.ret ?_)
      | (with_reducible refine NEXTK.exit ?_)
      | (with_reducible refine SEQ.plain ?_)
      | (with_reducible refine hK _ _ ?_)
      | ((with_reducible refine AR.ok ?_ ?_); exact ⟨by first | omega | (dsimp only; omega), by first | omega | (dsimp only; omega)⟩)
      | (with_reducible refine AR.wr ?_)
      | ((with_reducible intro w3 e3); try have z3 := cutLe e3)
      | ((with_reducible intro h3); have h4 := Nat.le_of_lt h3; clear h4)))
    conv => whnf
    refine LOOP.mk Nat (fun k => [(6, .v (.int .i64 k)), (5, .v (.int .i64 (wb j.fTiles k)))]) (fun k _ => 1 ≤ k ∧ k ≤ tkI j.fTiles) (fun k => tkI j.fTiles - k) 1 rfl ⟨rfl, ?_, trivial⟩ ⟨Nat.le_refl _, by omega⟩ ?_
    · rw [hw1]; rfl
    rintro k wr - ⟨hk1, hk⟩
    have hw := wb_ok j.fTiles k hk1
    have hbl : wb j.fTiles k < j.fTiles.length := by omega
    have hy := gD_get hbl
    rcases Nat.lt_or_ge k (tkI j.fTiles) with hlt | hge
    · have hlt' : k < j.fTiles.length := by omega
      have hx := gD_get hlt'
      repeat (any_goals (
        conv => whnf
        first
        | ((exfalso; omega))
        | ((with_reducible refine DRAW.quietE ?_ ?_ ?_); kernel_rfl; kernel_rfl)
        | ((with_reducible refine OBL.mk ?_ (fun _ => ?_)); exact ⟨by first | omega | (dsimp only; omega), by first | omega | (dsimp only; omega), his⟩)
        | ((with_reducible refine ELD.at (k) hr ?_ ?_ ?_ (fun x' hx' => ?_)); exact mAddr_Non _; (first | rfl | omega); exact hlt'; obtain rfl : gD j.fTiles k = x' := by (rw [hx] at hx'; exact Option.some.inj hx'))
        | ((with_reducible refine ELD.at (wb j.fTiles k) hr ?_ ?_ ?_ (fun x' hx' => ?_)); exact mAddr_Non _; (first | rfl | omega); exact hbl; obtain rfl : gD j.fTiles (wb j.fTiles k) = x' := by (rw [hy] at hx'; exact Option.some.inj hx'))
        | ((with_reducible refine BIF.dec ?_ ?_) <;> intro _)
        | ((with_reducible refine BIF.s ?_ ?_) <;> intro _)
        | (with_reducible refine NEXTK.normal ?_)
        | (with_reducible refine NEXTK.ret ?_)
        | (with_reducible refine NEXTK.exit ?_)
        | (with_reducible refine SEQ.plain ?_)
        | (with_reducible refine hK _ _ ?_)
        | ((with_reducible refine AR.ok ?_ ?_); exact ⟨by first | omega | (dsimp only; omega), by first | omega | (dsimp only; omega)⟩)
        | (with_reducible refine AR.wr ?_)
        | ((with_reducible intro w3 e3); try have z3 := cutLe e3)
        | ((with_reducible intro h3); have h4 := Nat.le_of_lt h3; clear h4)))
      all_goals
        refine ⟨k + 1, rfl, ⟨rfl, ?_, trivial⟩, rfl, rfl, ⟨by omega, by omega⟩, by omega⟩
        refine congrArg (fun z => TV.v (Value.int IntKind.i64 z)) ?_
        simp only [wb]
        split <;> first | rfl | (exfalso; omega) | (exfalso; simp_all <;> omega)
    · obtain rfl : k = tkI j.fTiles := by omega
      repeat (any_goals (
        conv => whnf
        first
        | ((exfalso; omega))
        | ((with_reducible refine DRAW.quietE ?_ ?_ ?_); kernel_rfl; kernel_rfl)
        | ((with_reducible refine OBL.mk ?_ (fun _ => ?_)); exact ⟨by first | omega | (dsimp only; omega), by first | omega | (dsimp only; omega), his⟩)
        | ((with_reducible refine ELD.at (wb j.fTiles (tkI j.fTiles)) hr ?_ ?_ ?_ (fun x' hx' => ?_)); exact mAddr_Non _; (first | rfl | omega); exact hbl; obtain rfl : gD j.fTiles (wb j.fTiles (tkI j.fTiles)) = x' := by (rw [hy] at hx'; exact Option.some.inj hx'))
        | ((with_reducible refine BIF.dec ?_ ?_) <;> intro _)
        | ((with_reducible refine BIF.s ?_ ?_) <;> intro _)
        | (with_reducible refine NEXTK.normal ?_)
        | (with_reducible refine NEXTK.ret ?_)
        | (with_reducible refine NEXTK.exit ?_)
        | (with_reducible refine SEQ.plain ?_)
        | (with_reducible refine hK _ _ ?_)
        | ((with_reducible refine AR.ok ?_ ?_); exact ⟨by first | omega | (dsimp only; omega), by first | omega | (dsimp only; omega)⟩)
        | (with_reducible refine AR.wr ?_)
        | ((with_reducible intro w3 e3); try have z3 := cutLe e3)
        | ((with_reducible intro h3); have h4 := Nat.le_of_lt h3; clear h4)))
      all_goals
        intro hx'
        refine ⟨?_, hx'⟩
        rw [hf]; rfl
  · have hf : worstP j = (0, 0, false) := by unfold worstP; rw [if_neg hg]
    repeat (any_goals (
      conv => whnf
      first
      | ((with_reducible refine callF (g := 29) ?_ ?_); kernel_rfl; refine ⟨_, l29Good_c j _ _ _ _ (by repeat (first | assumption | refine Row.e0 ?_ (by assumption))) hn hm, ?_⟩; intro w4 e4; have z4 := cutLe e4)
      | ((exfalso; clear hK; simp_all; done))
      | ((with_reducible refine BIF.dec ?_ ?_) <;> intro _)
      | ((with_reducible refine BIF.s ?_ ?_) <;> intro _)
      | (with_reducible refine NEXTK.normal ?_)
      | (with_reducible refine NEXTK.ret ?_)
      | (with_reducible refine NEXTK.exit ?_)
      | (with_reducible refine SEQ.plain ?_)
      | (with_reducible refine hK _ _ ?_)
      | ((with_reducible refine AR.ok ?_ ?_); exact ⟨by first | omega | (dsimp only; omega), by first | omega | (dsimp only; omega)⟩)
      | (with_reducible refine AR.wr ?_)
      | ((with_reducible intro w3 e3); try have z3 := cutLe e3)
      | ((with_reducible intro h3); have h4 := Nat.le_of_lt h3; clear h4)))
    all_goals
      intro hx'
      refine ⟨?_, hx'⟩
      rw [hf]; rfl

end Go.Proofs.Ytckflfckaobfnaa

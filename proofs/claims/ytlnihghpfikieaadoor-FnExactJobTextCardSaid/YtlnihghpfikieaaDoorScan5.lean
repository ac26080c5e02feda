/- What a sound job is. -/
import Derived.Test.YtlnihghpfikieaaDoorRows
import Derived.Test.YtlnihghpfikieaaDoorScan2
namespace Go.Proofs.YtlnihghpfikieaaDoor
open Go Go.X Go.Proofs Go.ChangeShapes Go.WideShapes Go.ChangeAt Go.RowKit
open Go.ChangeMaps (open_string shut_string)
set_option maxHeartbeats 1000000
set_option maxRecDepth 20000
set_option linter.unusedVariables false
set_option linter.unusedSimpArgs false
def stB (j : Job) : Bool :=
  if j.fState = 0 then decide (tkI j.fTiles = 0) && decide (j.fFails = 0)
  else if j.fState = 3 then decide (tkI j.fTiles = j.fTiles.length) && !decide (j.fFails = 3)
  else if j.fState = 2 then true else !decide (j.fFails = 3)
def goodB (j : Job) : Bool :=
  inB j.fTiles.length 1 8 && inB j.fState 0 3 && inB j.fFails 0 3 && j.fTiles.all (fun x => inB x 0 100) && tailZ j.fTiles && decide (j.fNext = tkI j.fTiles)
    && decide (j.fSize = IntKind.i64.wrap (10 * wsI j.fTiles)) && stB j
def elB (xs : List Int) (q : Nat) (y : Int) : Prop := inB y 0 100 = true ∧ (q ≤ tkI xs ∨ y = 0)
theorem tk_zero {xs : List Int} (h : tkI xs < xs.length) : xs[tkI xs]? = some 0 := by
  have := List.findIdx_getElem (p := fun x : Int => x == 0) (xs := xs) (w := h)
  rw [List.getElem?_eq_getElem h]
  exact congrArg some (by simpa using this : xs[List.findIdx (fun x => x == 0) xs]'h = 0)
theorem tail_iff (xs : List Int) : (∀ (q : Nat) y, xs[q]? = some y → elB xs q y) ↔ (xs.all (fun x => inB x 0 100) && tailZ xs) = true := by
  simp only [Bool.and_eq_true, List.all_eq_true, tailZ, Bool.not_eq_true', List.any_eq_false, elB]
  constructor
  · intro h
    refine ⟨fun x hx => ?_, fun x hx => ?_⟩
    · obtain ⟨q, hq⟩ := List.getElem?_of_mem hx
      exact (h q x hq).1
    · obtain ⟨q, hq⟩ := List.getElem?_of_mem hx
      rw [List.getElem?_drop] at hq
      rcases (h _ x hq).2 with h1 | h1
      · obtain rfl : q = 0 := by omega
        have hlt := (List.getElem?_eq_some_iff.1 hq).1
        rw [Nat.add_zero] at hq hlt
        rw [tk_zero hlt] at hq
        simp only [Option.some.injEq] at hq
        simp [← hq]
      · simp [h1]
  · rintro ⟨h1, h2⟩ q y hq
    refine ⟨h1 y (List.mem_of_getElem? hq), ?_⟩
    rcases Nat.lt_or_ge (tkI xs) q with h | h
    · right
      have : y ∈ xs.drop (tkI xs) := by
        refine List.mem_of_getElem? (i := q - tkI xs) ?_
        rw [List.getElem?_drop, show tkI xs + (q - tkI xs) = q from by omega]
        exact hq
      simpa using h2 y this
    · exact .inl h
theorem l29Good_c (j : Job) (a : Option Addr) (n c : Nat) (w : World) (hr : Row w a 1 (j.fTiles.map encI)) (hn : j.fTiles.length = n) (hm : n ≤ 4611686018427387904) :
    Calls Tryd.prog 10 #[.agg (encJob j a n c).toArray] w fun e w' => e = .returned (.bool (goodB j)) ∧ E0 w w' := by
  have htl := tkI_le j.fTiles
  refine enterK Non 95 Tryd.func10 rfl rfl rfl fun K hK => ?_
  by_cases h0 : inB n 1 8 = true ∧ inB j.fState 0 3 = true ∧ inB j.fFails 0 3 = true
  · obtain ⟨g1, g2, g3⟩ := h0
    have h2' := inB_iff.1 g2
    have h3' := inB_iff.1 g3
    repeat (any_goals (
      conv => whnf
      first
      | ((with_reducible refine callF (g := 16) ?_ ?_); kernel_rfl; refine ⟨_, l1In_c _ _ _ _, ?_⟩; intro w4 e4; have z4 := cutLe e4)
      | ((with_reducible refine callF (g := 17) ?_ ?_); kernel_rfl; refine ⟨_, l29Taken_c _ _ _ j.fTiles _ (by repeat (first | assumption | refine Row.e0 ?_ (by assumption))) hn hm, ?_⟩; intro w4 e4; have z4 := cutLe e4)
      | ((exfalso; clear hK; simp_all; done))
      | ((with_reducible refine BIF.dec ?_ ?_) <;> intro _)
      | ((with_reducible refine BIF.s ?_ ?_) <;> intro _)
      | (with_reducible refine NEXTK.normal ?_)
      | (with_reducible refine NEXTK.ret ?_)
      | (with_reducible refine NEXTK.exit ?_)
      | (with_reducible refine SEQ.plain ?_)
      | (with_reducible refine hK _ _ ?_)
      | ((with_reducible refine RUNL.agg (fun _ => ?_) ?_); (focus kernel_rfl))
      | (with_reducible refine RUNL.run ?_)
      | ((with_reducible refine AR.ok ?_ ?_); exact ⟨by first | omega | (dsimp only; omega), by first | omega | (dsimp only; omega)⟩)
      | (with_reducible refine AR.wr ?_)
      | ((with_reducible intro w3 e3); try have z3 := cutLe e3)
      | ((with_reducible intro h3); have h4 := Nat.le_of_lt h3; clear h4)))
    conv => whnf
    refine LOOP.mk Nat (fun k => [(5, .v (.int .i64 k))]) (fun k _ => k ≤ n ∧ ∀ q y, q < k → j.fTiles[q]? = some y → elB j.fTiles q y) (fun k => n - k) 0 rfl ⟨rfl, trivial⟩ ⟨Nat.zero_le _, fun q y hq => by omega⟩ ?_
    rintro k wr - ⟨hk, hno⟩
    rcases Nat.lt_or_ge k j.fTiles.length with hlt' | hge
    · have his := hr.isSome (by simp; omega)
      obtain ⟨x, hx⟩ : ∃ x, j.fTiles[k]? = some x := ⟨j.fTiles[k]'(by omega), by simp⟩
      by_cases hg : elB j.fTiles k x
      · have hg' := hg
        unfold elB at hg'
        repeat (any_goals (
          conv => whnf
          first
          | ((with_reducible refine callF (g := 16) ?_ ?_); kernel_rfl; refine ⟨_, l1In_c _ _ _ _, ?_⟩; intro w4 e4; have z4 := cutLe e4)
          | ((with_reducible refine OBL.mk ?_ (fun _ => ?_)); exact ⟨by first | omega | (dsimp only; omega), by first | omega | (dsimp only; omega), his⟩)
          | ((with_reducible refine ELD.at (k) hr ?_ ?_ ?_ (fun x' hx' => ?_)); exact mAddr_Non _; (first | rfl | omega); exact hlt'; obtain rfl : x = x' := by (rw [hx] at hx'; exact Option.some.inj hx'))
          | ((exfalso; omega))
          | ((exfalso; clear hK; simp_all <;> omega))
          | ((with_reducible refine BIF.dec ?_ ?_) <;> intro _)
          | ((with_reducible refine BIF.s ?_ ?_) <;> intro _)
          | (with_reducible refine NEXTK.normal ?_)
          | (with_reducible refine NEXTK.ret ?_)
          | (with_reducible refine NEXTK.exit ?_)
          | (with_reducible refine SEQ.plain ?_)
          | (with_reducible refine hK _ _ ?_)
          | ((with_reducible refine RUNL.agg (fun _ => ?_) ?_); (focus kernel_rfl))
          | (with_reducible refine RUNL.run ?_)
          | ((with_reducible refine AR.ok ?_ ?_); exact ⟨by first | omega | (dsimp only; omega), by first | omega | (dsimp only; omega)⟩)
          | (with_reducible refine AR.wr ?_)
          | ((with_reducible intro w3 e3); try have z3 := cutLe e3)
          | ((with_reducible intro h3); have h4 := Nat.le_of_lt h3; clear h4)))
        all_goals
          refine ⟨k + 1, rfl, ⟨rfl, trivial⟩, rfl, rfl, ⟨by omega, fun q y hq hy => ?_⟩, by omega⟩
          rcases Nat.lt_or_ge q k with h | h
          · exact hno q y h hy
          · obtain rfl : q = k := by omega
            rw [hx] at hy; cases hy; exact hg
      · have hgb : goodB j = false := by
          cases hc : goodB j with
          | false => rfl
          | true =>
            exfalso
            refine hg ((tail_iff j.fTiles).2 ?_ k x hx)
            simp only [goodB, Bool.and_eq_true] at hc
            simp only [Bool.and_eq_true]
            exact ⟨hc.1.1.1.1.2, hc.1.1.1.2⟩
        have hg' : inB x 0 100 = false ∨ ¬ (k ≤ tkI j.fTiles ∨ x = 0) := by
          unfold elB at hg
          cases hb : inB x 0 100 with
          | false => exact .inl rfl
          | true => exact .inr fun h => hg ⟨hb, h⟩
        repeat (any_goals (
          conv => whnf
          first
          | ((with_reducible refine callF (g := 16) ?_ ?_); kernel_rfl; refine ⟨_, l1In_c _ _ _ _, ?_⟩; intro w4 e4; have z4 := cutLe e4)
          | ((with_reducible refine OBL.mk ?_ (fun _ => ?_)); exact ⟨by first | omega | (dsimp only; omega), by first | omega | (dsimp only; omega), his⟩)
          | ((with_reducible refine ELD.at (k) hr ?_ ?_ ?_ (fun x' hx' => ?_)); exact mAddr_Non _; (first | rfl | omega); exact hlt'; obtain rfl : x = x' := by (rw [hx] at hx'; exact Option.some.inj hx'))
          | ((exfalso; omega))
          | ((exfalso; clear hK; simp_all <;> omega))
          | ((with_reducible refine BIF.dec ?_ ?_) <;> intro _)
          | ((with_reducible refine BIF.s ?_ ?_) <;> intro _)
          | (with_reducible refine NEXTK.normal ?_)
          | (with_reducible refine NEXTK.ret ?_)
          | (with_reducible refine NEXTK.exit ?_)
          | (with_reducible refine SEQ.plain ?_)
          | (with_reducible refine hK _ _ ?_)
          | ((with_reducible refine RUNL.agg (fun _ => ?_) ?_); (focus kernel_rfl))
          | (with_reducible refine RUNL.run ?_)
          | ((with_reducible refine AR.ok ?_ ?_); exact ⟨by first | omega | (dsimp only; omega), by first | omega | (dsimp only; omega)⟩)
          | (with_reducible refine AR.wr ?_)
          | ((with_reducible intro w3 e3); try have z3 := cutLe e3)
          | ((with_reducible intro h3); have h4 := Nat.le_of_lt h3; clear h4)))
        all_goals
          intro hx'
          refine ⟨?_, hx'⟩
          rw [hgb]; rfl
    · have hgb : goodB j = (decide (j.fNext = tkI j.fTiles) && decide (j.fSize = IntKind.i64.wrap (10 * wsI (j.fTiles.take (tkI j.fTiles)))) && stB j) := by
        have h4 := (tail_iff j.fTiles).1 (fun q y hy => hno q y (by have := (List.getElem?_eq_some_iff.1 hy).1; omega) hy)
        simp only [Bool.and_eq_true] at h4
        rw [wsI_tail h4.2]
        rw [← hn] at g1
        simp [goodB, g1, g2, g3, h4.1, h4.2]
      repeat (any_goals (
        conv => whnf
        first
        | ((exfalso; omega))
        | ((exfalso; clear hK; simp_all; done))
        | ((with_reducible refine BIF.dec ?_ ?_) <;> intro _)
        | ((with_reducible refine BIF.s ?_ ?_) <;> intro _)
        | (with_reducible refine NEXTK.normal ?_)
        | (with_reducible refine NEXTK.ret ?_)
        | (with_reducible refine NEXTK.exit ?_)
        | (with_reducible refine SEQ.plain ?_)
        | (with_reducible refine hK _ _ ?_)
        | ((with_reducible refine RUNL.agg (fun _ => ?_) ?_); (focus kernel_rfl))
        | (with_reducible refine RUNL.run ?_)
        | ((with_reducible refine AR.ok ?_ ?_); exact ⟨by first | omega | (dsimp only; omega), by first | omega | (dsimp only; omega)⟩)
        | (with_reducible refine AR.wr ?_)
        | ((with_reducible intro w3 e3); try have z3 := cutLe e3)
        | ((with_reducible intro h3); have h4 := Nat.le_of_lt h3; clear h4)))
      all_goals
        intro hx'
        refine ⟨?_, hx'⟩
        rw [hgb]
        first
        | (simp_all [stB, resV]; done)
        | (simp_all [stB, resV]; omega)
        | (simp_all [stB, resV]; rfl)
        | (simp_all [stB, resV]; rw [Bool.eq_iff_iff]; simp; done)
        | (simp_all [stB, resV]; rw [Bool.eq_iff_iff]; simp; omega)
  · have hgb : goodB j = false := by
      cases hc : goodB j with
      | false => rfl
      | true =>
        exfalso
        simp only [goodB, Bool.and_eq_true] at hc
        rw [hn] at hc
        exact h0 ⟨hc.1.1.1.1.1.1.1, hc.1.1.1.1.1.1.2, hc.1.1.1.1.1.2⟩
    repeat (any_goals (
      conv => whnf
      first
      | ((with_reducible refine callF (g := 16) ?_ ?_); kernel_rfl; refine ⟨_, l1In_c _ _ _ _, ?_⟩; intro w4 e4; have z4 := cutLe e4)
      | ((exfalso; clear hK; simp_all; done))
      | ((with_reducible refine BIF.dec ?_ ?_) <;> intro _)
      | ((with_reducible refine BIF.s ?_ ?_) <;> intro _)
      | (with_reducible refine NEXTK.normal ?_)
      | (with_reducible refine NEXTK.ret ?_)
      | (with_reducible refine NEXTK.exit ?_)
      | (with_reducible refine SEQ.plain ?_)
      | (with_reducible refine hK _ _ ?_)
      | ((with_reducible refine RUNL.agg (fun _ => ?_) ?_); (focus kernel_rfl))
      | (with_reducible refine RUNL.run ?_)
      | ((with_reducible refine AR.ok ?_ ?_); exact ⟨by first | omega | (dsimp only; omega), by first | omega | (dsimp only; omega)⟩)
      | (with_reducible refine AR.wr ?_)
      | ((with_reducible intro w3 e3); try have z3 := cutLe e3)
      | ((with_reducible intro h3); have h4 := Nat.le_of_lt h3; clear h4)))
    all_goals
      intro hx'
      refine ⟨?_, hx'⟩
      rw [hgb]; rfl

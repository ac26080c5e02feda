/- The walls with enough room. -/
import Derived.Test.YthgeeocmhdpgiaaDoorRows
import Derived.Test.YthgeeocmhdpgiaaDoorFrames6
namespace Go.Proofs.YthgeeocmhdpgiaaDoor
open Go Go.X Go.Proofs Go.ChangeShapes Go.WideShapes Go.ChangeAt Go.RowKit
open Go.ChangeMaps (open_string shut_string)
set_option maxHeartbeats 1000000
set_option maxRecDepth 20000
set_option linter.unusedVariables false
set_option linter.unusedSimpArgs false
def wallsUp (xs : List Frm) (wide f u : Int) : Nat → List Int
  | 0 => []
  | k + 1 => wallsUp xs wide f u k ++ (if wide ≤ roomF xs ((k : Int) + 1) f u then [(k : Int) + 1] else [])
theorem wallsUp_len (xs : List Frm) (wide f u : Int) : ∀ k, (wallsUp xs wide f u k).length ≤ k
  | 0 => Nat.le_refl _
  | k + 1 => by
    have := wallsUp_len xs wide f u k
    simp only [wallsUp, List.length_append]
    split <;> simp <;> omega
def wallsOk (xs : List Frm) (wide f u : Int) : Bool := areF xs && inB wide 10 500 && (inB f 0 4000 && inB u 0 4000 && decide (f ≤ u))
def wallsP (xs : List Frm) (wide f u : Int) : List Int × Bool := if wallsOk xs wide f u then (wallsUp xs wide f u 4, true) else ([], false)
theorem wallsP_len (xs : List Frm) (wide f u : Int) : (wallsP xs wide f u).1.length ≤ 4 := by
  unfold wallsP
  split
  · exact wallsUp_len xs wide f u 4
  · simp
theorem WallsFor_c (a : Option Addr) (n c : Nat) (xs : List Frm) (wide f u : Int) (w : World) (hr : Row w a 5 (xs.map encFrm)) (hn : xs.length = n) (hm : n ≤ 1048577) :
    Calls Tryd.prog 10 #[.slice a n c, .int .i64 wide, .int .i64 f, .int .i64 u] w fun e w' => ∃ v, e = .returned v ∧ E0 w w' ∧ ∃ s, v = .tuple #[s, .bool (wallsP xs wide f u).2] ∧ Own w' w.heap.size 3 1 s ((wallsP xs wide f u).1.map encI) := by
  refine enterK Non 42 Tryd.func10 rfl rfl rfl fun K hK => ?_
  cases hok : wallsOk xs wide f u with
  | false =>
    have hf : wallsP xs wide f u = ([], false) := by simp [wallsP, hok]
    have hbad : areF xs = false ∨ inB wide 10 500 = false ∨ inB f 0 4000 = false ∨ inB u 0 4000 = false ∨ ¬ f ≤ u := by
      unfold wallsOk at hok
      by_cases h0 : areF xs = true
      · by_cases h1 : inB wide 10 500 = true
        · by_cases h2 : inB f 0 4000 = true
          · by_cases h3 : inB u 0 4000 = true
            · refine .inr (.inr (.inr (.inr fun h4 => ?_)))
              simp [h0, h1, h2, h3, h4] at hok
            · exact .inr (.inr (.inr (.inl (by simpa using h3))))
          · exact .inr (.inr (.inl (by simpa using h2)))
        · exact .inr (.inl (by simpa using h1))
      · exact .inl (by simpa using h0)
    clear hok
    repeat (any_goals (
      conv => whnf
      first
      | ((with_reducible refine callF (g := 36) ?_ ?_); kernel_rfl; refine ⟨_, AreFrames_c _ _ _ xs _ (by repeat (first | assumption | refine Row.e0 ?_ (by assumption))) hn (by omega), ?_⟩; intro w4 e4; have z4 := cutLe e4)
      | ((with_reducible refine callF (g := 37) ?_ ?_); kernel_rfl; refine ⟨_, isWidth_c _ _, ?_⟩; intro w4 e4; have z4 := cutLe e4)
      | ((with_reducible refine callF (g := 38) ?_ ?_); kernel_rfl; refine ⟨_, areDays_c _ _ _, ?_⟩; intro w4 e4; have z4 := cutLe e4)
      | ((exfalso; clear hK hf; rcases hbad with h | h | h | h | h <;> simp_all <;> omega))
      | ((with_reducible refine BIF.dec ?_ ?_) <;> intro _)
      | ((with_reducible refine BIF.s ?_ ?_) <;> intro _)
      | (with_reducible refine NEXTK.normal ?_)
      | (with_reducible refine NEXTK.ret ?_)
      | (with_reducible refine NEXTK.exit ?_)
      | (with_reducible refine SEQ.plain ?_)
      | (with_reducible refine hK _ _ ?_)
      | ((with_reducible refine RUNL.agg (fun _ => ?_) ?_); (focus kernel_rfl))
      | (with_reducible refine RUNL.run ?_)
      | ((with_reducible refine AR.ok ?_ ?_); exact ⟨by first | omega | (dsimp only; omega), by first | omega | (dsimp only; omega)⟩)
      | (with_reducible refine AR.wr ?_)
      | ((with_reducible intro w3 e3); try have z3 := cutLe e3)
      | ((with_reducible intro h3); have h4 := Nat.le_of_lt h3; clear h4)))
    all_goals
      intro hx'
      rw [hf]
      exact ⟨_, rfl, hx', _, rfl, Own.nil _ _ _ _⟩
  | true =>
    have hf : wallsP xs wide f u = (wallsUp xs wide f u 4, true) := by simp [wallsP, hok]
    unfold wallsOk at hok
    repeat (any_goals (
      conv => whnf
      first
      | ((with_reducible refine callF (g := 36) ?_ ?_); kernel_rfl; refine ⟨_, AreFrames_c _ _ _ xs _ (by repeat (first | assumption | refine Row.e0 ?_ (by assumption))) hn (by omega), ?_⟩; intro w4 e4; have z4 := cutLe e4)
      | ((with_reducible refine callF (g := 37) ?_ ?_); kernel_rfl; refine ⟨_, isWidth_c _ _, ?_⟩; intro w4 e4; have z4 := cutLe e4)
      | ((with_reducible refine callF (g := 38) ?_ ?_); kernel_rfl; refine ⟨_, areDays_c _ _ _, ?_⟩; intro w4 e4; have z4 := cutLe e4)
      | ((exfalso; clear hK; simp_all <;> omega))
      | ((with_reducible refine BIF.dec ?_ ?_) <;> intro _)
      | ((with_reducible refine BIF.s ?_ ?_) <;> intro _)
      | (with_reducible refine NEXTK.normal ?_)
      | (with_reducible refine NEXTK.ret ?_)
      | (with_reducible refine NEXTK.exit ?_)
      | (with_reducible refine SEQ.plain ?_)
      | (with_reducible refine hK _ _ ?_)
      | ((with_reducible refine RUNL.agg (fun _ => ?_) ?_); (focus kernel_rfl))
      | (with_reducible refine RUNL.run ?_)
      | ((with_reducible refine AR.ok ?_ ?_); exact ⟨by first | omega | (dsimp only; omega), by first | omega | (dsimp only; omega)⟩)
      | (with_reducible refine AR.wr ?_)
      | ((with_reducible intro w3 e3); try have z3 := cutLe e3)
      | ((with_reducible intro h3); have h4 := Nat.le_of_lt h3; clear h4)))
    conv => whnf
    refine LOOP.mk (Nat × (Option Addr × Nat × Nat)) (fun g => [(11, .v (.int .i64 ((g.1 : Int) + 1))), (10, .v (.slice g.2.1 g.2.2.1 g.2.2.2))])
      (fun g wr => g.1 ≤ 4 ∧ w.heap.size ≤ wr.heap.size ∧ Own wr w.heap.size 3 1 (.slice g.2.1 g.2.2.1 g.2.2.2) ((wallsUp xs wide f u g.1).map encI)) (fun g => 4 - g.1) (0, (none, 0, 0)) rfl ⟨rfl, rfl, trivial⟩ ⟨Nat.zero_le _, by show w.heap.size ≤ w4.heap.size; omega, Own.nil _ _ _ _⟩ ?_
    rintro ⟨j, ⟨b, m, e⟩⟩ wr - ⟨hj, hz, hown⟩
    simp only at hj hz hown
    have hml := hown.row.2
    have hil := wallsUp_len xs wide f u j
    conv => whnf
    repeat (first | ((with_reducible refine NEXTK.normal ?_); conv => whnf) | ((with_reducible refine NEXTK.exit ?_); conv => whnf) | ((with_reducible refine NEXTK.ret ?_); conv => whnf) | ((with_reducible refine SEQ.plain ?_); conv => whnf) | ((with_reducible refine AR.ok ?_ ?_); exact ⟨by omega, by omega⟩; conv => whnf))
    refine BIF.dec (fun hlt => ?_) (fun hlt => ?_)
    · simp only at hlt
      by_cases hxr : wide ≤ roomF xs ((j : Int) + 1) f u
      · have ht : wallsUp xs wide f u (j + 1) = wallsUp xs wide f u j ++ [(j : Int) + 1] := by simp [wallsUp, hxr]
        repeat (any_goals (
          conv => whnf
          first
          | ((with_reducible refine callX (g := 39) ?_ ?_); kernel_rfl; intro hX; refine ⟨_, roomFor_c _ _ _ xs _ _ _ _ (hr.ext hX (mAddr_Non _)) hn (by omega), ?_⟩; intro w5 e5; have z5 := cutLe e5; replace hown := hown.e0 e5)
          | ((with_reducible refine BIF.dec ?_ ?_) <;> intro hdc)
          | ((exfalso; (first | omega | (dsimp only at hdc; omega))))
          | ((with_reducible refine bsS elemI [.int .i64 ((j : Int) + 1)] ?_ ?_ ?_ ?_ ?_); (focus rfl); (focus rfl); (focus (intro v hv; simp at hv; subst hv; rfl)); (focus omega); intro w9 e9 oB; have z9 := cutLe e9; (try replace oC := oC.e0 e9))
          | ((with_reducible refine BIF.dec ?_ ?_) <;> intro _)
          | ((with_reducible refine BIF.s ?_ ?_) <;> intro _)
          | (with_reducible refine NEXTK.normal ?_)
          | (with_reducible refine NEXTK.ret ?_)
          | (with_reducible refine NEXTK.exit ?_)
          | (with_reducible refine SEQ.plain ?_)
          | (with_reducible refine hK _ _ ?_)
          | ((with_reducible refine RUNL.agg (fun _ => ?_) ?_); (focus kernel_rfl))
          | (with_reducible refine RUNL.run ?_)
          | ((with_reducible refine AR.ok ?_ ?_); exact ⟨by first | omega | (dsimp only; omega), by first | omega | (dsimp only; omega)⟩)
          | (with_reducible refine AR.wr ?_)
          | ((with_reducible intro w3 e3); try have z3 := cutLe e3)
          | ((with_reducible intro h3); have h4 := Nat.le_of_lt h3; clear h4)))
        conv => whnf
        replace hown := hown.e0 e9
        refine apS (ns := [encI ((j : Int) + 1)]) elemI hown oB.row.1 rfl (by intro l hl; simp at hl; subst hl; rfl) ⟨by simp; omega, by simp; omega⟩ ⟨(by show w.heap.size ≤ _; omega), by omega⟩ trivial (fun v2 w2 x2 o2 => ?_)
        have z2 := cutLe x2
        replace o2 : Own w2 w.heap.size 3 1 v2 ((wallsUp xs wide f u (j + 1)).map encI) := by rw [ht]; simpa using o2
        obtain ⟨b2, d2, rfl, q2, p2⟩ := o2.rowx
        repeat (any_goals (
          conv => whnf
          first
          | ((with_reducible refine BIF.dec ?_ ?_) <;> intro _)
          | ((with_reducible refine BIF.s ?_ ?_) <;> intro _)
          | (with_reducible refine NEXTK.normal ?_)
          | (with_reducible refine NEXTK.ret ?_)
          | (with_reducible refine NEXTK.exit ?_)
          | (with_reducible refine SEQ.plain ?_)
          | (with_reducible refine hK _ _ ?_)
          | ((with_reducible refine RUNL.agg (fun _ => ?_) ?_); (focus kernel_rfl))
          | (with_reducible refine RUNL.run ?_)
          | ((with_reducible refine AR.ok ?_ ?_); exact ⟨by first | omega | (dsimp only; omega), by first | omega | (dsimp only; omega)⟩)
          | (with_reducible refine AR.wr ?_)
          | ((with_reducible intro w3 e3); try have z3 := cutLe e3)
          | ((with_reducible intro h3); have h4 := Nat.le_of_lt h3; clear h4)))
        refine ⟨(j + 1, (b2, _, d2)), rfl, ⟨?_, rfl, trivial⟩, rfl, rfl, ⟨by simp only; omega, ?_, o2⟩, by simp only; omega⟩
        · simp [lk, Nat.beq]
        · show w.heap.size ≤ w2.heap.size
          omega
      · have ht : wallsUp xs wide f u (j + 1) = wallsUp xs wide f u j := by simp [wallsUp, hxr]
        repeat (any_goals (
          conv => whnf
          first
          | ((with_reducible refine callX (g := 39) ?_ ?_); kernel_rfl; intro hX; refine ⟨_, roomFor_c _ _ _ xs _ _ _ _ (hr.ext hX (mAddr_Non _)) hn (by omega), ?_⟩; intro w5 e5; have z5 := cutLe e5; replace hown := hown.e0 e5)
          | ((with_reducible refine BIF.dec ?_ ?_) <;> intro hdc)
          | ((exfalso; (first | omega | (dsimp only at hdc; omega))))
          | ((with_reducible refine BIF.dec ?_ ?_) <;> intro _)
          | ((with_reducible refine BIF.s ?_ ?_) <;> intro _)
          | (with_reducible refine NEXTK.normal ?_)
          | (with_reducible refine NEXTK.ret ?_)
          | (with_reducible refine NEXTK.exit ?_)
          | (with_reducible refine SEQ.plain ?_)
          | (with_reducible refine hK _ _ ?_)
          | ((with_reducible refine RUNL.agg (fun _ => ?_) ?_); (focus kernel_rfl))
          | (with_reducible refine RUNL.run ?_)
          | ((with_reducible refine AR.ok ?_ ?_); exact ⟨by first | omega | (dsimp only; omega), by first | omega | (dsimp only; omega)⟩)
          | (with_reducible refine AR.wr ?_)
          | ((with_reducible intro w3 e3); try have z3 := cutLe e3)
          | ((with_reducible intro h3); have h4 := Nat.le_of_lt h3; clear h4)))
        refine ⟨(j + 1, (b, m, e)), rfl, ⟨?_, rfl, trivial⟩, rfl, rfl, ⟨by simp only; omega, ?_, ?_⟩, by simp only; omega⟩
        · simp [lk, Nat.beq]
        · show w.heap.size ≤ w5.heap.size
          omega
        · rw [ht]; exact hown
    · have hkj : j = 4 := by omega
      subst hkj
      repeat (any_goals (
        conv => whnf
        first
        | ((with_reducible refine BIF.dec ?_ ?_) <;> intro _)
        | ((with_reducible refine BIF.s ?_ ?_) <;> intro _)
        | (with_reducible refine NEXTK.normal ?_)
        | (with_reducible refine NEXTK.ret ?_)
        | (with_reducible refine NEXTK.exit ?_)
        | (with_reducible refine SEQ.plain ?_)
        | (with_reducible refine hK _ _ ?_)
        | ((with_reducible refine RUNL.agg (fun _ => ?_) ?_); (focus kernel_rfl))
        | (with_reducible refine RUNL.run ?_)
        | ((with_reducible refine AR.ok ?_ ?_); exact ⟨by first | omega | (dsimp only; omega), by first | omega | (dsimp only; omega)⟩)
        | (with_reducible refine AR.wr ?_)
        | ((with_reducible intro w3 e3); try have z3 := cutLe e3)
        | ((with_reducible intro h3); have h4 := Nat.le_of_lt h3; clear h4)))
      intro hx'
      rw [hf]
      exact ⟨_, rfl, hx', _, rfl, hown⟩
theorem WallsForS_c (a : Option Addr) (n c : Nat) (xs : List Frm) (wide f u : Int) (w : World) (hr : Row w a 5 (xs.map encFrm)) (hn : xs.length = n) (hm : n ≤ 1048577) :
    Calls Tryd.prog 11 #[.slice a n c, .int .i64 wide, .int .i64 f, .int .i64 u] w fun e w' => ∃ v, e = .returned v ∧ E0 w w' ∧ ∃ s, v = .tuple #[s, .bool (wallsP xs wide f u).2] ∧ Own w' w.heap.size 3 1 s ((wallsP xs wide f u).1.map encI) := by
  refine enterK Non 44 Tryd.func11 rfl rfl rfl fun K hK => ?_
  conv => whnf
  repeat (first | ((with_reducible refine NEXTK.normal ?_); conv => whnf) | ((with_reducible refine NEXTK.exit ?_); conv => whnf) | ((with_reducible refine NEXTK.ret ?_); conv => whnf) | ((with_reducible refine SEQ.plain ?_); conv => whnf) | ((with_reducible refine AR.ok ?_ ?_); exact ⟨by omega, by omega⟩; conv => whnf))
  refine bsS elemI [] rfl rfl (by simp) (by omega) (fun w1 e1 o1 => ?_)
  have z1 := cutLe e1
  cases hok : wallsOk xs wide f u with
  | false =>
    have hf : wallsP xs wide f u = ([], false) := by simp [wallsP, hok]
    have hbad : areF xs = false ∨ inB wide 10 500 = false ∨ inB f 0 4000 = false ∨ inB u 0 4000 = false ∨ ¬ f ≤ u := by
      unfold wallsOk at hok
      by_cases h0 : areF xs = true
      · by_cases h1 : inB wide 10 500 = true
        · by_cases h2 : inB f 0 4000 = true
          · by_cases h3 : inB u 0 4000 = true
            · refine .inr (.inr (.inr (.inr fun h4 => ?_)))
              simp [h0, h1, h2, h3, h4] at hok
            · exact .inr (.inr (.inr (.inl (by simpa using h3))))
          · exact .inr (.inr (.inl (by simpa using h2)))
        · exact .inr (.inl (by simpa using h1))
      · exact .inl (by simpa using h0)
    clear hok
    repeat (any_goals (
      conv => whnf
      first
      | ((with_reducible refine callF (g := 40) ?_ ?_); kernel_rfl; refine ⟨_, l27Good_c _ _ _ xs _ (by repeat (first | assumption | refine Row.e0 ?_ (by assumption))) hn (by omega), ?_⟩; intro w4 e4; have z4 := cutLe e4)
      | ((with_reducible refine callF (g := 41) ?_ ?_); kernel_rfl; refine ⟨_, l27Wide_c _ _, ?_⟩; intro w4 e4; have z4 := cutLe e4)
      | ((with_reducible refine callF (g := 42) ?_ ?_); kernel_rfl; refine ⟨_, l27Days_c _ _ _, ?_⟩; intro w4 e4; have z4 := cutLe e4)
      | ((exfalso; clear hK hf; rcases hbad with h | h | h | h | h <;> simp_all <;> omega))
      | ((with_reducible refine BIF.dec ?_ ?_) <;> intro _)
      | ((with_reducible refine BIF.s ?_ ?_) <;> intro _)
      | (with_reducible refine NEXTK.normal ?_)
      | (with_reducible refine NEXTK.ret ?_)
      | (with_reducible refine NEXTK.exit ?_)
      | (with_reducible refine SEQ.plain ?_)
      | (with_reducible refine hK _ _ ?_)
      | ((with_reducible refine RUNL.agg (fun _ => ?_) ?_); (focus kernel_rfl))
      | (with_reducible refine RUNL.run ?_)
      | ((with_reducible refine AR.ok ?_ ?_); exact ⟨by first | omega | (dsimp only; omega), by first | omega | (dsimp only; omega)⟩)
      | (with_reducible refine AR.wr ?_)
      | ((with_reducible intro w3 e3); try have z3 := cutLe e3)
      | ((with_reducible intro h3); have h4 := Nat.le_of_lt h3; clear h4)))
    all_goals
      intro hx'
      rw [hf]
      exact ⟨_, rfl, hx', _, rfl, (by clear hx'; repeat (first | exact o1 | exact o1.lo (by omega) | refine Own.e0 ?_ (by assumption)))⟩
  | true =>
    have hf : wallsP xs wide f u = (wallsUp xs wide f u 4, true) := by simp [wallsP, hok]
    unfold wallsOk at hok
    repeat (any_goals (
      conv => whnf
      first
      | ((with_reducible refine callF (g := 40) ?_ ?_); kernel_rfl; refine ⟨_, l27Good_c _ _ _ xs _ (by repeat (first | assumption | refine Row.e0 ?_ (by assumption))) hn (by omega), ?_⟩; intro w4 e4; have z4 := cutLe e4)
      | ((with_reducible refine callF (g := 41) ?_ ?_); kernel_rfl; refine ⟨_, l27Wide_c _ _, ?_⟩; intro w4 e4; have z4 := cutLe e4)
      | ((with_reducible refine callF (g := 42) ?_ ?_); kernel_rfl; refine ⟨_, l27Days_c _ _ _, ?_⟩; intro w4 e4; have z4 := cutLe e4)
      | ((exfalso; clear hK; simp_all <;> omega))
      | ((with_reducible refine BIF.dec ?_ ?_) <;> intro _)
      | ((with_reducible refine BIF.s ?_ ?_) <;> intro _)
      | (with_reducible refine NEXTK.normal ?_)
      | (with_reducible refine NEXTK.ret ?_)
      | (with_reducible refine NEXTK.exit ?_)
      | (with_reducible refine SEQ.plain ?_)
      | (with_reducible refine hK _ _ ?_)
      | ((with_reducible refine RUNL.agg (fun _ => ?_) ?_); (focus kernel_rfl))
      | (with_reducible refine RUNL.run ?_)
      | ((with_reducible refine AR.ok ?_ ?_); exact ⟨by first | omega | (dsimp only; omega), by first | omega | (dsimp only; omega)⟩)
      | (with_reducible refine AR.wr ?_)
      | ((with_reducible intro w3 e3); try have z3 := cutLe e3)
      | ((with_reducible intro h3); have h4 := Nat.le_of_lt h3; clear h4)))
    conv => whnf
    have o4 : Own w4 w.heap.size 3 1 (.slice (some ⟨w.heap.size, 0, none⟩) 0 0) (([] : List Int).map encI) := by
      repeat (first | exact o1 | refine Own.e0 ?_ (by assumption))
    refine LOOP.mk (Nat × (Option Addr × Nat × Nat)) (fun g => [(11, .v (.int .i64 ((g.1 : Int) + 1))), (10, .v (.slice g.2.1 g.2.2.1 g.2.2.2))])
      (fun g wr => g.1 ≤ 4 ∧ w.heap.size ≤ wr.heap.size ∧ Own wr w.heap.size 3 1 (.slice g.2.1 g.2.2.1 g.2.2.2) ((wallsUp xs wide f u g.1).map encI)) (fun g => 4 - g.1) (0, (some ⟨w.heap.size, 0, none⟩, 0, 0)) rfl ⟨rfl, rfl, trivial⟩ ⟨Nat.zero_le _, by show w.heap.size ≤ w4.heap.size; omega, o4⟩ ?_
    rintro ⟨j, ⟨b, m, e⟩⟩ wr - ⟨hj, hz, hown⟩
    simp only at hj hz hown
    have hml := hown.row.2
    have hil := wallsUp_len xs wide f u j
    conv => whnf
    repeat (first | ((with_reducible refine NEXTK.normal ?_); conv => whnf) | ((with_reducible refine NEXTK.exit ?_); conv => whnf) | ((with_reducible refine NEXTK.ret ?_); conv => whnf) | ((with_reducible refine SEQ.plain ?_); conv => whnf) | ((with_reducible refine AR.ok ?_ ?_); exact ⟨by omega, by omega⟩; conv => whnf))
    refine BIF.dec (fun hlt => ?_) (fun hlt => ?_)
    · simp only at hlt
      by_cases hxr : wide ≤ roomF xs ((j : Int) + 1) f u
      · have ht : wallsUp xs wide f u (j + 1) = wallsUp xs wide f u j ++ [(j : Int) + 1] := by simp [wallsUp, hxr]
        repeat (any_goals (
          conv => whnf
          first
          | ((with_reducible refine callX (g := 43) ?_ ?_); kernel_rfl; intro hX; refine ⟨_, l27Room_c _ _ _ xs _ _ _ _ (hr.ext hX (mAddr_Non _)) hn (by omega), ?_⟩; intro w5 e5; have z5 := cutLe e5; replace hown := hown.e0 e5)
          | ((with_reducible refine BIF.dec ?_ ?_) <;> intro hdc)
          | ((exfalso; (first | omega | (dsimp only at hdc; omega))))
          | ((with_reducible refine bsS elemI [.int .i64 ((j : Int) + 1)] ?_ ?_ ?_ ?_ ?_); (focus rfl); (focus rfl); (focus (intro v hv; simp at hv; subst hv; rfl)); (focus omega); intro w9 e9 oB; have z9 := cutLe e9; (try replace oC := oC.e0 e9))
          | ((with_reducible refine BIF.dec ?_ ?_) <;> intro _)
          | ((with_reducible refine BIF.s ?_ ?_) <;> intro _)
          | (with_reducible refine NEXTK.normal ?_)
          | (with_reducible refine NEXTK.ret ?_)
          | (with_reducible refine NEXTK.exit ?_)
          | (with_reducible refine SEQ.plain ?_)
          | (with_reducible refine hK _ _ ?_)
          | ((with_reducible refine RUNL.agg (fun _ => ?_) ?_); (focus kernel_rfl))
          | (with_reducible refine RUNL.run ?_)
          | ((with_reducible refine AR.ok ?_ ?_); exact ⟨by first | omega | (dsimp only; omega), by first | omega | (dsimp only; omega)⟩)
          | (with_reducible refine AR.wr ?_)
          | ((with_reducible intro w3 e3); try have z3 := cutLe e3)
          | ((with_reducible intro h3); have h4 := Nat.le_of_lt h3; clear h4)))
        conv => whnf
        replace hown := hown.e0 e9
        refine apS (ns := [encI ((j : Int) + 1)]) elemI hown oB.row.1 rfl (by intro l hl; simp at hl; subst hl; rfl) ⟨by simp; omega, by simp; omega⟩ ⟨(by show w.heap.size ≤ _; omega), by omega⟩ trivial (fun v2 w2 x2 o2 => ?_)
        have z2 := cutLe x2
        replace o2 : Own w2 w.heap.size 3 1 v2 ((wallsUp xs wide f u (j + 1)).map encI) := by rw [ht]; simpa using o2
        obtain ⟨b2, d2, rfl, q2, p2⟩ := o2.rowx
        repeat (any_goals (
          conv => whnf
          first
          | ((with_reducible refine BIF.dec ?_ ?_) <;> intro _)
          | ((with_reducible refine BIF.s ?_ ?_) <;> intro _)
          | (with_reducible refine NEXTK.normal ?_)
          | (with_reducible refine NEXTK.ret ?_)
          | (with_reducible refine NEXTK.exit ?_)
          | (with_reducible refine SEQ.plain ?_)
          | (with_reducible refine hK _ _ ?_)
          | ((with_reducible refine RUNL.agg (fun _ => ?_) ?_); (focus kernel_rfl))
          | (with_reducible refine RUNL.run ?_)
          | ((with_reducible refine AR.ok ?_ ?_); exact ⟨by first | omega | (dsimp only; omega), by first | omega | (dsimp only; omega)⟩)
          | (with_reducible refine AR.wr ?_)
          | ((with_reducible intro w3 e3); try have z3 := cutLe e3)
          | ((with_reducible intro h3); have h4 := Nat.le_of_lt h3; clear h4)))
        refine ⟨(j + 1, (b2, _, d2)), rfl, ⟨?_, rfl, trivial⟩, rfl, rfl, ⟨by simp only; omega, ?_, o2⟩, by simp only; omega⟩
        · simp [lk, Nat.beq]
        · show w.heap.size ≤ w2.heap.size
          omega
      · have ht : wallsUp xs wide f u (j + 1) = wallsUp xs wide f u j := by simp [wallsUp, hxr]
        repeat (any_goals (
          conv => whnf
          first
          | ((with_reducible refine callX (g := 43) ?_ ?_); kernel_rfl; intro hX; refine ⟨_, l27Room_c _ _ _ xs _ _ _ _ (hr.ext hX (mAddr_Non _)) hn (by omega), ?_⟩; intro w5 e5; have z5 := cutLe e5; replace hown := hown.e0 e5)
          | ((with_reducible refine BIF.dec ?_ ?_) <;> intro hdc)
          | ((exfalso; (first | omega | (dsimp only at hdc; omega))))
          | ((with_reducible refine BIF.dec ?_ ?_) <;> intro _)
          | ((with_reducible refine BIF.s ?_ ?_) <;> intro _)
          | (with_reducible refine NEXTK.normal ?_)
          | (with_reducible refine NEXTK.ret ?_)
          | (with_reducible refine NEXTK.exit ?_)
          | (with_reducible refine SEQ.plain ?_)
          | (with_reducible refine hK _ _ ?_)
          | ((with_reducible refine RUNL.agg (fun _ => ?_) ?_); (focus kernel_rfl))
          | (with_reducible refine RUNL.run ?_)
          | ((with_reducible refine AR.ok ?_ ?_); exact ⟨by first | omega | (dsimp only; omega), by first | omega | (dsimp only; omega)⟩)
          | (with_reducible refine AR.wr ?_)
          | ((with_reducible intro w3 e3); try have z3 := cutLe e3)
          | ((with_reducible intro h3); have h4 := Nat.le_of_lt h3; clear h4)))
        refine ⟨(j + 1, (b, m, e)), rfl, ⟨?_, rfl, trivial⟩, rfl, rfl, ⟨by simp only; omega, ?_, ?_⟩, by simp only; omega⟩
        · simp [lk, Nat.beq]
        · show w.heap.size ≤ w5.heap.size
          omega
        · rw [ht]; exact hown
    · have hkj : j = 4 := by omega
      subst hkj
      repeat (any_goals (
        conv => whnf
        first
        | ((with_reducible refine BIF.dec ?_ ?_) <;> intro _)
        | ((with_reducible refine BIF.s ?_ ?_) <;> intro _)
        | (with_reducible refine NEXTK.normal ?_)
        | (with_reducible refine NEXTK.ret ?_)
        | (with_reducible refine NEXTK.exit ?_)
        | (with_reducible refine SEQ.plain ?_)
        | (with_reducible refine hK _ _ ?_)
        | ((with_reducible refine RUNL.agg (fun _ => ?_) ?_); (focus kernel_rfl))
        | (with_reducible refine RUNL.run ?_)
        | ((with_reducible refine AR.ok ?_ ?_); exact ⟨by first | omega | (dsimp only; omega), by first | omega | (dsimp only; omega)⟩)
        | (with_reducible refine AR.wr ?_)
        | ((with_reducible intro w3 e3); try have z3 := cutLe e3)
        | ((with_reducible intro h3); have h4 := Nat.le_of_lt h3; clear h4)))
      intro hx'
      rw [hf]
      exact ⟨_, rfl, hx', _, rfl, hown⟩

end Go.Proofs.YthgeeocmhdpgiaaDoor

/- FnExactWorstSheets returns true for every argument and leaves its arguments as they were. -/
import Derived.Test.YtgopcppegjhmiaaRows
import Derived.Test.YtgopcppegjhmiaaRep8
namespace Go.Proofs.Ytgopcppegjhmiaa
open Go Go.X Go.Proofs Go.ChangeShapes Go.WideShapes Go.ChangeAt Go.RowKit
open Go.ChangeMaps (open_string shut_string)
set_option maxHeartbeats 1000000
set_option maxRecDepth 20000
set_option linter.unusedVariables false
set_option linter.unusedSimpArgs false
theorem FnExactWorstSheets_w (w : World) (a0 : Option Addr) (n0 c0 : Nat) (xs0 : List Dmg) (hr0 : Row w a0 4 (xs0.map encDmg)) (hn0 : xs0.length = n0) (hm0 : n0 ≤ 9223372036854775807) (_hg0 : ∀ x ∈ xs0, fitDmg x) (a1 : Option Addr) (n1 c1 : Nat) (xs1 : List Rep) (hr1 : Row w a1 3 (xs1.map encRep)) (hn1 : xs1.length = n1) (hm1 : n1 ≤ 9223372036854775807) (_hg1 : ∀ x ∈ xs1, fitRep x) (i2 : Int) (h2 : -9223372036854775808 ≤ i2 ∧ i2 ≤ 9223372036854775807) :
    Calls Try.prog 6 #[.slice a0 n0 c0, .slice a1 n1 c1, .int .i64 i2] w fun e w' => e = .returned (.bool true) ∧ E0 w w' := by
  refine enterK Non 124 Try.func6 rfl rfl rfl fun K hK => ?_
  rcases Nat.lt_or_ge 1048576 n0 with hbig | hbig
  · repeat (any_goals (
      conv => whnf
      first
      | ((with_reducible refine callF (g := 8) ?_ ?_); kernel_rfl; refine ⟨_, szDmgS_no _ _ _ _ _ (by omega), ?_⟩; intro w4 e4; have z4 := cutLe e4)
      | ((with_reducible refine BIF.s (fun h => absurd h ?_) (fun _ => ?_)); focus (first | (simp; done) | (simp; omega)))
      | ((with_reducible refine BIF.s (fun _ => ?_) (fun h => absurd h ?_)); rotate_left; focus (first | (simp; done) | (simp; omega)))
      | ((with_reducible refine BIF.dec ?_ ?_) <;> intro _)
      | ((with_reducible refine BIF.s ?_ ?_) <;> intro _)
      | (with_reducible refine NEXTK.normal ?_)
      | (with_reducible refine NEXTK.ret ?_)
      | (with_reducible refine NEXTK.exit ?_)
      | (with_reducible refine SEQ.plain ?_)
      | (with_reducible refine hK _ _ ?_)
      | ((with_reducible refine RUNL.agg (fun _ => ?_) ?_); (focus kernel_rfl))
      | (with_reducible refine RUNL.run ?_)
      | ((with_reducible refine AR.ok ?_ ?_); exact ⟨by first | omega | (dsimp only; omega), by first | omega | (dsimp only; omega)⟩)
      | (with_reducible refine AR.wr ?_)
      | ((with_reducible intro w3 e3); try have z3 := cutLe e3)
      | ((with_reducible intro h3); have h4 := Nat.le_of_lt h3; clear h4)))
    intro hx
    exact ⟨rfl, hx⟩
  rcases Nat.lt_or_ge 1048576 (n0 + n1) with hbig2 | hbig2
  · repeat (any_goals (
      conv => whnf
      first
      | ((with_reducible refine callF (g := 8) ?_ ?_); kernel_rfl; refine ⟨_, szDmgS_ok _ _ _ _ _ (by omega), ?_⟩; intro w4 e4; have z4 := cutLe e4)
      | ((with_reducible refine callF (g := 17) ?_ ?_); kernel_rfl; refine ⟨_, szRepS_no _ _ _ _ _ (by omega), ?_⟩; intro w4 e4; have z4 := cutLe e4)
      | ((with_reducible refine BIF.s (fun h => absurd h ?_) (fun _ => ?_)); focus (first | (simp; done) | (simp; omega)))
      | ((with_reducible refine BIF.s (fun _ => ?_) (fun h => absurd h ?_)); rotate_left; focus (first | (simp; done) | (simp; omega)))
      | ((with_reducible refine BIF.dec ?_ ?_) <;> intro _)
      | ((with_reducible refine BIF.s ?_ ?_) <;> intro _)
      | (with_reducible refine NEXTK.normal ?_)
      | (with_reducible refine NEXTK.ret ?_)
      | (with_reducible refine NEXTK.exit ?_)
      | (with_reducible refine SEQ.plain ?_)
      | (with_reducible refine hK _ _ ?_)
      | ((with_reducible refine RUNL.agg (fun _ => ?_) ?_); (focus kernel_rfl))
      | (with_reducible refine RUNL.run ?_)
      | ((with_reducible refine AR.ok ?_ ?_); exact ⟨by first | omega | (dsimp only; omega), by first | omega | (dsimp only; omega)⟩)
      | (with_reducible refine AR.wr ?_)
      | ((with_reducible intro w3 e3); try have z3 := cutLe e3)
      | ((with_reducible intro h3); have h4 := Nat.le_of_lt h3; clear h4)))
    intro hx
    exact ⟨rfl, hx⟩
  · repeat (any_goals (
      conv => whnf
      first
      | ((with_reducible refine callF (g := 8) ?_ ?_); kernel_rfl; refine ⟨_, szDmgS_ok _ _ _ _ _ (by omega), ?_⟩; intro w4 e4; have z4 := cutLe e4)
      | ((with_reducible refine callF (g := 17) ?_ ?_); kernel_rfl; refine ⟨_, szRepS_ok _ _ _ _ _ (by omega), ?_⟩; intro w4 e4; have z4 := cutLe e4)
      | ((with_reducible refine BIF.s (fun h => absurd h ?_) (fun _ => ?_)); focus (first | (simp; done) | (simp; omega)))
      | ((with_reducible refine BIF.s (fun _ => ?_) (fun h => absurd h ?_)); rotate_left; focus (first | (simp; done) | (simp; omega)))
      | ((with_reducible refine BIF.dec ?_ ?_) <;> intro _)
      | ((with_reducible refine BIF.s ?_ ?_) <;> intro _)
      | (with_reducible refine NEXTK.normal ?_)
      | (with_reducible refine NEXTK.ret ?_)
      | (with_reducible refine NEXTK.exit ?_)
      | (with_reducible refine SEQ.plain ?_)
      | (with_reducible refine hK _ _ ?_)
      | ((with_reducible refine RUNL.agg (fun _ => ?_) ?_); (focus kernel_rfl))
      | (with_reducible refine RUNL.run ?_)
      | ((with_reducible refine AR.ok ?_ ?_); exact ⟨by first | omega | (dsimp only; omega), by first | omega | (dsimp only; omega)⟩)
      | (with_reducible refine AR.wr ?_)
      | ((with_reducible intro w3 e3); try have z3 := cutLe e3)
      | ((with_reducible intro h3); have h4 := Nat.le_of_lt h3; clear h4)))
    have hbT := (worstP_len xs0 xs1 i2)
    refine callY (g := 10) (by kernel_rfl) ⟨_, fun x => toDmgS_c _ _ _ xs0 _ (hr0.ext x (mAddr_Non _)) hn0 (by omega), fun r w1 e1 oA => ?_⟩
    have sz1 := e1.size
    obtain ⟨boA, doA, rfl, qoA, poA⟩ := oA.rowx
    have looA := Nat.le_refl 0
    repeat (any_goals (
      conv => whnf
      first
      | ((with_reducible refine BIF.s (fun h => absurd h ?_) (fun _ => ?_)); focus (first | (simp; done) | (simp; omega)))
      | ((with_reducible refine BIF.s (fun _ => ?_) (fun h => absurd h ?_)); rotate_left; focus (first | (simp; done) | (simp; omega)))
      | ((with_reducible refine BIF.dec ?_ ?_) <;> intro _)
      | ((with_reducible refine BIF.s ?_ ?_) <;> intro _)
      | (with_reducible refine NEXTK.normal ?_)
      | (with_reducible refine NEXTK.ret ?_)
      | (with_reducible refine NEXTK.exit ?_)
      | (with_reducible refine SEQ.plain ?_)
      | (with_reducible refine hK _ _ ?_)
      | ((with_reducible refine RUNL.agg (fun _ => ?_) ?_); (focus kernel_rfl))
      | (with_reducible refine RUNL.run ?_)
      | ((with_reducible refine AR.ok ?_ ?_); exact ⟨by first | omega | (dsimp only; omega), by first | omega | (dsimp only; omega)⟩)
      | (with_reducible refine AR.wr ?_)
      | ((with_reducible intro w3 e3); try have z3 := cutLe e3)
      | ((with_reducible intro h3); have h4 := Nat.le_of_lt h3; clear h4)))
    refine callY (g := 19) (by kernel_rfl) ⟨_, fun x => toRepS_c _ _ _ xs1 _ (hr1.ext x (mAddr_Non _)) hn1 (by omega), fun r w2 e2 oAA => ?_⟩
    have sz2 := e2.size
    have apoAoAA := oA.apart oAA
    obtain ⟨boAA, doAA, rfl, qoAA, poAA⟩ := oAA.rowx
    have looAA := Nat.le_refl 0
    replace oA := oA.e0 e2
    repeat (any_goals (
      conv => whnf
      first
      | ((with_reducible refine BIF.s (fun h => absurd h ?_) (fun _ => ?_)); focus (first | (simp; done) | (simp; omega)))
      | ((with_reducible refine BIF.s (fun _ => ?_) (fun h => absurd h ?_)); rotate_left; focus (first | (simp; done) | (simp; omega)))
      | ((with_reducible refine BIF.dec ?_ ?_) <;> intro _)
      | ((with_reducible refine BIF.s ?_ ?_) <;> intro _)
      | (with_reducible refine NEXTK.normal ?_)
      | (with_reducible refine NEXTK.ret ?_)
      | (with_reducible refine NEXTK.exit ?_)
      | (with_reducible refine SEQ.plain ?_)
      | (with_reducible refine hK _ _ ?_)
      | ((with_reducible refine RUNL.agg (fun _ => ?_) ?_); (focus kernel_rfl))
      | (with_reducible refine RUNL.run ?_)
      | ((with_reducible refine AR.ok ?_ ?_); exact ⟨by first | omega | (dsimp only; omega), by first | omega | (dsimp only; omega)⟩)
      | (with_reducible refine AR.wr ?_)
      | ((with_reducible intro w3 e3); try have z3 := cutLe e3)
      | ((with_reducible intro h3); have h4 := Nat.le_of_lt h3; clear h4)))
    refine callY (g := 25) (by kernel_rfl) ⟨_, fun x => WorstSheetsS_c _ _ _ _ _ _ xs0 xs1 _ _ oA.row.1 oAA.row.1 rfl rfl (by omega) (by omega) poAA, fun r w3 e3 hoW => ?_⟩
    obtain ⟨voW, rfl, oW⟩ := hoW
    have sz3 := e3.size
    have apoAoW := oA.apart oW
    have apoAAoW := oAA.apart oW
    obtain ⟨boW, doW, rfl, qoW, poW⟩ := oW.rowx
    replace oA := oA.e0 e3
    replace oAA := oAA.e0 e3
    repeat (any_goals (
      conv => whnf
      first
      | ((with_reducible refine BIF.s (fun h => absurd h ?_) (fun _ => ?_)); focus (first | (simp; done) | (simp; omega)))
      | ((with_reducible refine BIF.s (fun _ => ?_) (fun h => absurd h ?_)); rotate_left; focus (first | (simp; done) | (simp; omega)))
      | ((with_reducible refine BIF.dec ?_ ?_) <;> intro _)
      | ((with_reducible refine BIF.s ?_ ?_) <;> intro _)
      | (with_reducible refine NEXTK.normal ?_)
      | (with_reducible refine NEXTK.ret ?_)
      | (with_reducible refine NEXTK.exit ?_)
      | (with_reducible refine SEQ.plain ?_)
      | (with_reducible refine hK _ _ ?_)
      | ((with_reducible refine RUNL.agg (fun _ => ?_) ?_); (focus kernel_rfl))
      | (with_reducible refine RUNL.run ?_)
      | ((with_reducible refine AR.ok ?_ ?_); exact ⟨by first | omega | (dsimp only; omega), by first | omega | (dsimp only; omega)⟩)
      | (with_reducible refine AR.wr ?_)
      | ((with_reducible intro w3 e3); try have z3 := cutLe e3)
      | ((with_reducible intro h3); have h4 := Nat.le_of_lt h3; clear h4)))
    refine callY (g := 10) (by kernel_rfl) ⟨_, fun x => toDmgS_c _ _ _ xs0 _ (hr0.ext x (mAddr_Non _)) hn0 (by omega), fun r w4 e4 oX => ?_⟩
    have sz4 := e4.size
    have apoAoX := oA.apart oX
    have apoAAoX := oAA.apart oX
    have apoWoX := oW.apart oX
    obtain ⟨boX, doX, rfl, qoX, poX⟩ := oX.rowx
    have looX := Nat.le_refl 0
    replace oA := oA.e0 e4
    replace oAA := oAA.e0 e4
    replace oW := oW.e0 e4
    repeat (any_goals (
      conv => whnf
      first
      | ((with_reducible refine BIF.s (fun h => absurd h ?_) (fun _ => ?_)); focus (first | (simp; done) | (simp; omega)))
      | ((with_reducible refine BIF.s (fun _ => ?_) (fun h => absurd h ?_)); rotate_left; focus (first | (simp; done) | (simp; omega)))
      | ((with_reducible refine BIF.dec ?_ ?_) <;> intro _)
      | ((with_reducible refine BIF.s ?_ ?_) <;> intro _)
      | (with_reducible refine NEXTK.normal ?_)
      | (with_reducible refine NEXTK.ret ?_)
      | (with_reducible refine NEXTK.exit ?_)
      | (with_reducible refine SEQ.plain ?_)
      | (with_reducible refine hK _ _ ?_)
      | ((with_reducible refine RUNL.agg (fun _ => ?_) ?_); (focus kernel_rfl))
      | (with_reducible refine RUNL.run ?_)
      | ((with_reducible refine AR.ok ?_ ?_); exact ⟨by first | omega | (dsimp only; omega), by first | omega | (dsimp only; omega)⟩)
      | (with_reducible refine AR.wr ?_)
      | ((with_reducible intro w3 e3); try have z3 := cutLe e3)
      | ((with_reducible intro h3); have h4 := Nat.le_of_lt h3; clear h4)))
    refine callY (g := 19) (by kernel_rfl) ⟨_, fun x => toRepS_c _ _ _ xs1 _ (hr1.ext x (mAddr_Non _)) hn1 (by omega), fun r w5 e5 oY => ?_⟩
    have sz5 := e5.size
    have apoAoY := oA.apart oY
    have apoAAoY := oAA.apart oY
    have apoWoY := oW.apart oY
    have apoXoY := oX.apart oY
    obtain ⟨boY, doY, rfl, qoY, poY⟩ := oY.rowx
    have looY := Nat.le_refl 0
    replace oA := oA.e0 e5
    replace oAA := oAA.e0 e5
    replace oW := oW.e0 e5
    replace oX := oX.e0 e5
    repeat (any_goals (
      conv => whnf
      first
      | ((with_reducible refine BIF.s (fun h => absurd h ?_) (fun _ => ?_)); focus (first | (simp; done) | (simp; omega)))
      | ((with_reducible refine BIF.s (fun _ => ?_) (fun h => absurd h ?_)); rotate_left; focus (first | (simp; done) | (simp; omega)))
      | ((with_reducible refine BIF.dec ?_ ?_) <;> intro _)
      | ((with_reducible refine BIF.s ?_ ?_) <;> intro _)
      | (with_reducible refine NEXTK.normal ?_)
      | (with_reducible refine NEXTK.ret ?_)
      | (with_reducible refine NEXTK.exit ?_)
      | (with_reducible refine SEQ.plain ?_)
      | (with_reducible refine hK _ _ ?_)
      | ((with_reducible refine RUNL.agg (fun _ => ?_) ?_); (focus kernel_rfl))
      | (with_reducible refine RUNL.run ?_)
      | ((with_reducible refine AR.ok ?_ ?_); exact ⟨by first | omega | (dsimp only; omega), by first | omega | (dsimp only; omega)⟩)
      | (with_reducible refine AR.wr ?_)
      | ((with_reducible intro w3 e3); try have z3 := cutLe e3)
      | ((with_reducible intro h3); have h4 := Nat.le_of_lt h3; clear h4)))
    refine callY (g := 26) (by kernel_rfl) ⟨_, fun x => WorstSheets_c _ _ _ _ _ _ xs0 xs1 _ _ oX.row.1 oY.row.1 rfl rfl (by omega) (by omega) poY, fun r w6 e6 hoG => ?_⟩
    obtain ⟨voG, rfl, oG⟩ := hoG
    have sz6 := e6.size
    have apoAoG := oA.apart oG
    have apoAAoG := oAA.apart oG
    have apoWoG := oW.apart oG
    have apoXoG := oX.apart oG
    have apoYoG := oY.apart oG
    obtain ⟨boG, doG, rfl, qoG, poG⟩ := oG.rowx
    replace oA := oA.e0 e6
    replace oAA := oAA.e0 e6
    replace oW := oW.e0 e6
    replace oX := oX.e0 e6
    replace oY := oY.e0 e6
    repeat (any_goals (
      conv => whnf
      first
      | ((with_reducible refine BIF.s (fun h => absurd h ?_) (fun _ => ?_)); focus (first | (simp; done) | (simp; omega)))
      | ((with_reducible refine BIF.s (fun _ => ?_) (fun h => absurd h ?_)); rotate_left; focus (first | (simp; done) | (simp; omega)))
      | ((with_reducible refine BIF.dec ?_ ?_) <;> intro _)
      | ((with_reducible refine BIF.s ?_ ?_) <;> intro _)
      | (with_reducible refine NEXTK.normal ?_)
      | (with_reducible refine NEXTK.ret ?_)
      | (with_reducible refine NEXTK.exit ?_)
      | (with_reducible refine SEQ.plain ?_)
      | (with_reducible refine hK _ _ ?_)
      | ((with_reducible refine RUNL.agg (fun _ => ?_) ?_); (focus kernel_rfl))
      | (with_reducible refine RUNL.run ?_)
      | ((with_reducible refine AR.ok ?_ ?_); exact ⟨by first | omega | (dsimp only; omega), by first | omega | (dsimp only; omega)⟩)
      | (with_reducible refine AR.wr ?_)
      | ((with_reducible intro w3 e3); try have z3 := cutLe e3)
      | ((with_reducible intro h3); have h4 := Nat.le_of_lt h3; clear h4)))
    refine callF (g := 12) (by kernel_rfl) ⟨_, eqIntS_c _ _ _ _ _ _ _ _ _ oG.row.1 oW.row.1 rfl rfl (by omega) (by omega), fun w7 e7 => ?_⟩
    have sz7 := e7.size
    replace oA := oA.e0 e7
    replace oAA := oAA.e0 e7
    replace oW := oW.e0 e7
    replace oX := oX.e0 e7
    replace oY := oY.e0 e7
    replace oG := oG.e0 e7
    repeat (any_goals (
      conv => whnf
      first
      | ((with_reducible refine BIF.s (fun h => absurd h ?_) (fun _ => ?_)); focus (first | (simp; done) | (simp; omega)))
      | ((with_reducible refine BIF.s (fun _ => ?_) (fun h => absurd h ?_)); rotate_left; focus (first | (simp; done) | (simp; omega)))
      | ((with_reducible refine BIF.dec ?_ ?_) <;> intro _)
      | ((with_reducible refine BIF.s ?_ ?_) <;> intro _)
      | (with_reducible refine NEXTK.normal ?_)
      | (with_reducible refine NEXTK.ret ?_)
      | (with_reducible refine NEXTK.exit ?_)
      | (with_reducible refine SEQ.plain ?_)
      | (with_reducible refine hK _ _ ?_)
      | ((with_reducible refine RUNL.agg (fun _ => ?_) ?_); (focus kernel_rfl))
      | (with_reducible refine RUNL.run ?_)
      | ((with_reducible refine AR.ok ?_ ?_); exact ⟨by first | omega | (dsimp only; omega), by first | omega | (dsimp only; omega)⟩)
      | (with_reducible refine AR.wr ?_)
      | ((with_reducible intro w3 e3); try have z3 := cutLe e3)
      | ((with_reducible intro h3); have h4 := Nat.le_of_lt h3; clear h4)))
    refine callY (g := 10) (by kernel_rfl) ⟨_, fun x => toDmgS_c _ _ _ xs0 _ (hr0.ext x (mAddr_Non _)) hn0 (by omega), fun r w8 e8 oB => ?_⟩
    have sz8 := e8.size
    have apoAoB := oA.apart oB
    have apoAAoB := oAA.apart oB
    have apoWoB := oW.apart oB
    have apoXoB := oX.apart oB
    have apoYoB := oY.apart oB
    have apoGoB := oG.apart oB
    obtain ⟨boB, doB, rfl, qoB, poB⟩ := oB.rowx
    have looB := Nat.le_refl 0
    replace oA := oA.e0 e8
    replace oAA := oAA.e0 e8
    replace oW := oW.e0 e8
    replace oX := oX.e0 e8
    replace oY := oY.e0 e8
    replace oG := oG.e0 e8
    repeat (any_goals (
      conv => whnf
      first
      | ((with_reducible refine BIF.s (fun h => absurd h ?_) (fun _ => ?_)); focus (first | (simp; done) | (simp; omega)))
      | ((with_reducible refine BIF.s (fun _ => ?_) (fun h => absurd h ?_)); rotate_left; focus (first | (simp; done) | (simp; omega)))
      | ((with_reducible refine BIF.dec ?_ ?_) <;> intro _)
      | ((with_reducible refine BIF.s ?_ ?_) <;> intro _)
      | (with_reducible refine NEXTK.normal ?_)
      | (with_reducible refine NEXTK.ret ?_)
      | (with_reducible refine NEXTK.exit ?_)
      | (with_reducible refine SEQ.plain ?_)
      | (with_reducible refine hK _ _ ?_)
      | ((with_reducible refine RUNL.agg (fun _ => ?_) ?_); (focus kernel_rfl))
      | (with_reducible refine RUNL.run ?_)
      | ((with_reducible refine AR.ok ?_ ?_); exact ⟨by first | omega | (dsimp only; omega), by first | omega | (dsimp only; omega)⟩)
      | (with_reducible refine AR.wr ?_)
      | ((with_reducible intro w3 e3); try have z3 := cutLe e3)
      | ((with_reducible intro h3); have h4 := Nat.le_of_lt h3; clear h4)))
    refine callF (g := 13) (by kernel_rfl) ⟨_, eqDmgS_c _ _ _ _ _ _ _ _ _ oX.row.1 oB.row.1 rfl rfl (by omega) (by omega), fun w9 e9 => ?_⟩
    have sz9 := e9.size
    replace oA := oA.e0 e9
    replace oAA := oAA.e0 e9
    replace oW := oW.e0 e9
    replace oX := oX.e0 e9
    replace oY := oY.e0 e9
    replace oG := oG.e0 e9
    replace oB := oB.e0 e9
    repeat (any_goals (
      conv => whnf
      first
      | ((with_reducible refine BIF.s (fun h => absurd h ?_) (fun _ => ?_)); focus (first | (simp; done) | (simp; omega)))
      | ((with_reducible refine BIF.s (fun _ => ?_) (fun h => absurd h ?_)); rotate_left; focus (first | (simp; done) | (simp; omega)))
      | ((with_reducible refine BIF.dec ?_ ?_) <;> intro _)
      | ((with_reducible refine BIF.s ?_ ?_) <;> intro _)
      | (with_reducible refine NEXTK.normal ?_)
      | (with_reducible refine NEXTK.ret ?_)
      | (with_reducible refine NEXTK.exit ?_)
      | (with_reducible refine SEQ.plain ?_)
      | (with_reducible refine hK _ _ ?_)
      | ((with_reducible refine RUNL.agg (fun _ => ?_) ?_); (focus kernel_rfl))
      | (with_reducible refine RUNL.run ?_)
      | ((with_reducible refine AR.ok ?_ ?_); exact ⟨by first | omega | (dsimp only; omega), by first | omega | (dsimp only; omega)⟩)
      | (with_reducible refine AR.wr ?_)
      | ((with_reducible intro w3 e3); try have z3 := cutLe e3)
      | ((with_reducible intro h3); have h4 := Nat.le_of_lt h3; clear h4)))
    refine callY (g := 19) (by kernel_rfl) ⟨_, fun x => toRepS_c _ _ _ xs1 _ (hr1.ext x (mAddr_Non _)) hn1 (by omega), fun r w10 e10 oD => ?_⟩
    have sz10 := e10.size
    have apoAoD := oA.apart oD
    have apoAAoD := oAA.apart oD
    have apoWoD := oW.apart oD
    have apoXoD := oX.apart oD
    have apoYoD := oY.apart oD
    have apoGoD := oG.apart oD
    have apoBoD := oB.apart oD
    obtain ⟨boD, doD, rfl, qoD, poD⟩ := oD.rowx
    have looD := Nat.le_refl 0
    replace oA := oA.e0 e10
    replace oAA := oAA.e0 e10
    replace oW := oW.e0 e10
    replace oX := oX.e0 e10
    replace oY := oY.e0 e10
    replace oG := oG.e0 e10
    replace oB := oB.e0 e10
    repeat (any_goals (
      conv => whnf
      first
      | ((with_reducible refine BIF.s (fun h => absurd h ?_) (fun _ => ?_)); focus (first | (simp; done) | (simp; omega)))
      | ((with_reducible refine BIF.s (fun _ => ?_) (fun h => absurd h ?_)); rotate_left; focus (first | (simp; done) | (simp; omega)))
      | ((with_reducible refine BIF.dec ?_ ?_) <;> intro _)
      | ((with_reducible refine BIF.s ?_ ?_) <;> intro _)
      | (with_reducible refine NEXTK.normal ?_)
      | (with_reducible refine NEXTK.ret ?_)
      | (with_reducible refine NEXTK.exit ?_)
      | (with_reducible refine SEQ.plain ?_)
      | (with_reducible refine hK _ _ ?_)
      | ((with_reducible refine RUNL.agg (fun _ => ?_) ?_); (focus kernel_rfl))
      | (with_reducible refine RUNL.run ?_)
      | ((with_reducible refine AR.ok ?_ ?_); exact ⟨by first | omega | (dsimp only; omega), by first | omega | (dsimp only; omega)⟩)
      | (with_reducible refine AR.wr ?_)
      | ((with_reducible intro w3 e3); try have z3 := cutLe e3)
      | ((with_reducible intro h3); have h4 := Nat.le_of_lt h3; clear h4)))
    refine callF (g := 22) (by kernel_rfl) ⟨_, eqRepS_c _ _ _ _ _ _ _ _ _ oY.row.1 oD.row.1 rfl rfl (by omega) (by omega), fun w11 e11 => ?_⟩
    have sz11 := e11.size
    replace oA := oA.e0 e11
    replace oAA := oAA.e0 e11
    replace oW := oW.e0 e11
    replace oX := oX.e0 e11
    replace oY := oY.e0 e11
    replace oG := oG.e0 e11
    replace oB := oB.e0 e11
    replace oD := oD.e0 e11
    repeat (any_goals (
      conv => whnf
      first
      | ((with_reducible refine BIF.s (fun h => absurd h ?_) (fun _ => ?_)); focus (first | (simp; done) | (simp; omega)))
      | ((with_reducible refine BIF.s (fun _ => ?_) (fun h => absurd h ?_)); rotate_left; focus (first | (simp; done) | (simp; omega)))
      | ((with_reducible refine BIF.dec ?_ ?_) <;> intro _)
      | ((with_reducible refine BIF.s ?_ ?_) <;> intro _)
      | (with_reducible refine NEXTK.normal ?_)
      | (with_reducible refine NEXTK.ret ?_)
      | (with_reducible refine NEXTK.exit ?_)
      | (with_reducible refine SEQ.plain ?_)
      | (with_reducible refine hK _ _ ?_)
      | ((with_reducible refine RUNL.agg (fun _ => ?_) ?_); (focus kernel_rfl))
      | (with_reducible refine RUNL.run ?_)
      | ((with_reducible refine AR.ok ?_ ?_); exact ⟨by first | omega | (dsimp only; omega), by first | omega | (dsimp only; omega)⟩)
      | (with_reducible refine AR.wr ?_)
      | ((with_reducible intro w3 e3); try have z3 := cutLe e3)
      | ((with_reducible intro h3); have h4 := Nat.le_of_lt h3; clear h4)))
    refine callM (g := 14) (by kernel_rfl) ⟨_, _, trivial, fun b hb h => oX.fresh (by omega) b hb h, markDmgS_c _ _ _ _ _ _ _ oX rfl (by omega) (by omega), fun r w12 e12 h => ?_⟩
    obtain ⟨rfl, moX⟩ := h
    have sz12 := e12.size
    replace oA := oA.past e12 apoAoX
    replace oAA := oAA.past e12 apoAAoX
    replace oW := oW.past e12 apoWoX
    replace oY := oY.past e12 (ne_symm' apoXoY)
    replace oG := oG.past e12 (ne_symm' apoXoG)
    replace oB := oB.past e12 (ne_symm' apoXoB)
    replace oD := oD.past e12 (ne_symm' apoXoD)
    clear oX
    repeat (any_goals (
      conv => whnf
      first
      | ((with_reducible refine BIF.s (fun h => absurd h ?_) (fun _ => ?_)); focus (first | (simp; done) | (simp; omega)))
      | ((with_reducible refine BIF.s (fun _ => ?_) (fun h => absurd h ?_)); rotate_left; focus (first | (simp; done) | (simp; omega)))
      | ((with_reducible refine BIF.dec ?_ ?_) <;> intro _)
      | ((with_reducible refine BIF.s ?_ ?_) <;> intro _)
      | (with_reducible refine NEXTK.normal ?_)
      | (with_reducible refine NEXTK.ret ?_)
      | (with_reducible refine NEXTK.exit ?_)
      | (with_reducible refine SEQ.plain ?_)
      | (with_reducible refine hK _ _ ?_)
      | ((with_reducible refine RUNL.agg (fun _ => ?_) ?_); (focus kernel_rfl))
      | (with_reducible refine RUNL.run ?_)
      | ((with_reducible refine AR.ok ?_ ?_); exact ⟨by first | omega | (dsimp only; omega), by first | omega | (dsimp only; omega)⟩)
      | (with_reducible refine AR.wr ?_)
      | ((with_reducible intro w3 e3); try have z3 := cutLe e3)
      | ((with_reducible intro h3); have h4 := Nat.le_of_lt h3; clear h4)))
    refine callM (g := 27) (by kernel_rfl) ⟨_, _, trivial, fun b hb h => oY.fresh (by omega) b hb h, markRepS_c _ _ _ _ _ _ _ oY rfl (by omega) (by omega), fun r w13 e13 h => ?_⟩
    obtain ⟨rfl, moY⟩ := h
    have sz13 := e13.size
    replace oA := oA.past e13 apoAoY
    replace oAA := oAA.past e13 apoAAoY
    replace oW := oW.past e13 apoWoY
    replace moX := moX.past e13 apoXoY
    replace oG := oG.past e13 (ne_symm' apoYoG)
    replace oB := oB.past e13 (ne_symm' apoYoB)
    replace oD := oD.past e13 (ne_symm' apoYoD)
    clear oY
    repeat (any_goals (
      conv => whnf
      first
      | ((with_reducible refine BIF.s (fun h => absurd h ?_) (fun _ => ?_)); focus (first | (simp; done) | (simp; omega)))
      | ((with_reducible refine BIF.s (fun _ => ?_) (fun h => absurd h ?_)); rotate_left; focus (first | (simp; done) | (simp; omega)))
      | ((with_reducible refine BIF.dec ?_ ?_) <;> intro _)
      | ((with_reducible refine BIF.s ?_ ?_) <;> intro _)
      | (with_reducible refine NEXTK.normal ?_)
      | (with_reducible refine NEXTK.ret ?_)
      | (with_reducible refine NEXTK.exit ?_)
      | (with_reducible refine SEQ.plain ?_)
      | (with_reducible refine hK _ _ ?_)
      | ((with_reducible refine RUNL.agg (fun _ => ?_) ?_); (focus kernel_rfl))
      | (with_reducible refine RUNL.run ?_)
      | ((with_reducible refine AR.ok ?_ ?_); exact ⟨by first | omega | (dsimp only; omega), by first | omega | (dsimp only; omega)⟩)
      | (with_reducible refine AR.wr ?_)
      | ((with_reducible intro w3 e3); try have z3 := cutLe e3)
      | ((with_reducible intro h3); have h4 := Nat.le_of_lt h3; clear h4)))
    refine callF (g := 12) (by kernel_rfl) ⟨_, eqIntS_c _ _ _ _ _ _ _ _ _ oG.row.1 oW.row.1 rfl rfl (by omega) (by omega), fun w14 e14 => ?_⟩
    have sz14 := e14.size
    replace oA := oA.e0 e14
    replace oAA := oAA.e0 e14
    replace oW := oW.e0 e14
    replace moX := moX.e0 e14
    replace moY := moY.e0 e14
    replace oG := oG.e0 e14
    replace oB := oB.e0 e14
    replace oD := oD.e0 e14
    repeat (any_goals (
      conv => whnf
      first
      | ((with_reducible refine BIF.s (fun h => absurd h ?_) (fun _ => ?_)); focus (first | (simp; done) | (simp; omega)))
      | ((with_reducible refine BIF.s (fun _ => ?_) (fun h => absurd h ?_)); rotate_left; focus (first | (simp; done) | (simp; omega)))
      | ((with_reducible refine BIF.dec ?_ ?_) <;> intro _)
      | ((with_reducible refine BIF.s ?_ ?_) <;> intro _)
      | (with_reducible refine NEXTK.normal ?_)
      | (with_reducible refine NEXTK.ret ?_)
      | (with_reducible refine NEXTK.exit ?_)
      | (with_reducible refine SEQ.plain ?_)
      | (with_reducible refine hK _ _ ?_)
      | ((with_reducible refine RUNL.agg (fun _ => ?_) ?_); (focus kernel_rfl))
      | (with_reducible refine RUNL.run ?_)
      | ((with_reducible refine AR.ok ?_ ?_); exact ⟨by first | omega | (dsimp only; omega), by first | omega | (dsimp only; omega)⟩)
      | (with_reducible refine AR.wr ?_)
      | ((with_reducible intro w3 e3); try have z3 := cutLe e3)
      | ((with_reducible intro h3); have h4 := Nat.le_of_lt h3; clear h4)))
    refine callM (g := 15) (by kernel_rfl) ⟨_, _, trivial, fun b hb h => oG.fresh (by omega) b hb h, markIntS_c _ _ _ _ _ _ _ oG rfl (by omega) (by omega), fun r w15 e15 h => ?_⟩
    obtain ⟨rfl, moG⟩ := h
    have sz15 := e15.size
    replace oA := oA.past e15 apoAoG
    replace oAA := oAA.past e15 apoAAoG
    replace oW := oW.past e15 apoWoG
    replace moX := moX.past e15 apoXoG
    replace moY := moY.past e15 apoYoG
    replace oB := oB.past e15 (ne_symm' apoGoB)
    replace oD := oD.past e15 (ne_symm' apoGoD)
    clear oG
    repeat (any_goals (
      conv => whnf
      first
      | ((with_reducible refine BIF.s (fun h => absurd h ?_) (fun _ => ?_)); focus (first | (simp; done) | (simp; omega)))
      | ((with_reducible refine BIF.s (fun _ => ?_) (fun h => absurd h ?_)); rotate_left; focus (first | (simp; done) | (simp; omega)))
      | ((with_reducible refine BIF.dec ?_ ?_) <;> intro _)
      | ((with_reducible refine BIF.s ?_ ?_) <;> intro _)
      | (with_reducible refine NEXTK.normal ?_)
      | (with_reducible refine NEXTK.ret ?_)
      | (with_reducible refine NEXTK.exit ?_)
      | (with_reducible refine SEQ.plain ?_)
      | (with_reducible refine hK _ _ ?_)
      | ((with_reducible refine RUNL.agg (fun _ => ?_) ?_); (focus kernel_rfl))
      | (with_reducible refine RUNL.run ?_)
      | ((with_reducible refine AR.ok ?_ ?_); exact ⟨by first | omega | (dsimp only; omega), by first | omega | (dsimp only; omega)⟩)
      | (with_reducible refine AR.wr ?_)
      | ((with_reducible intro w3 e3); try have z3 := cutLe e3)
      | ((with_reducible intro h3); have h4 := Nat.le_of_lt h3; clear h4)))
    refine callF (g := 16) (by kernel_rfl) ⟨_, heldIntS_c _ _ _ _ _ moG.row.1 (by omega) (by omega), fun w16 e16 => ?_⟩
    have sz16 := e16.size
    replace oA := oA.e0 e16
    replace oAA := oAA.e0 e16
    replace oW := oW.e0 e16
    replace moX := moX.e0 e16
    replace moY := moY.e0 e16
    replace moG := moG.e0 e16
    replace oB := oB.e0 e16
    replace oD := oD.e0 e16
    repeat (any_goals (
      conv => whnf
      first
      | ((with_reducible refine BIF.s (fun h => absurd h ?_) (fun _ => ?_)); focus (first | (simp; done) | (simp; omega)))
      | ((with_reducible refine BIF.s (fun _ => ?_) (fun h => absurd h ?_)); rotate_left; focus (first | (simp; done) | (simp; omega)))
      | ((with_reducible refine BIF.dec ?_ ?_) <;> intro _)
      | ((with_reducible refine BIF.s ?_ ?_) <;> intro _)
      | (with_reducible refine NEXTK.normal ?_)
      | (with_reducible refine NEXTK.ret ?_)
      | (with_reducible refine NEXTK.exit ?_)
      | (with_reducible refine SEQ.plain ?_)
      | (with_reducible refine hK _ _ ?_)
      | ((with_reducible refine RUNL.agg (fun _ => ?_) ?_); (focus kernel_rfl))
      | (with_reducible refine RUNL.run ?_)
      | ((with_reducible refine AR.ok ?_ ?_); exact ⟨by first | omega | (dsimp only; omega), by first | omega | (dsimp only; omega)⟩)
      | (with_reducible refine AR.wr ?_)
      | ((with_reducible intro w3 e3); try have z3 := cutLe e3)
      | ((with_reducible intro h3); have h4 := Nat.le_of_lt h3; clear h4)))
    refine callY (g := 10) (by kernel_rfl) ⟨_, fun x => toDmgS_c _ _ _ xs0 _ (hr0.ext x (mAddr_Non _)) hn0 (by omega), fun r w17 e17 oC => ?_⟩
    have sz17 := e17.size
    have apoAoC := oA.apart oC
    have apoAAoC := oAA.apart oC
    have apoWoC := oW.apart oC
    have apoXoC := moX.apart oC
    have apoYoC := moY.apart oC
    have apoGoC := moG.apart oC
    have apoBoC := oB.apart oC
    have apoDoC := oD.apart oC
    obtain ⟨boC, doC, rfl, qoC, poC⟩ := oC.rowx
    have looC := Nat.le_refl 0
    replace oA := oA.e0 e17
    replace oAA := oAA.e0 e17
    replace oW := oW.e0 e17
    replace moX := moX.e0 e17
    replace moY := moY.e0 e17
    replace moG := moG.e0 e17
    replace oB := oB.e0 e17
    replace oD := oD.e0 e17
    repeat (any_goals (
      conv => whnf
      first
      | ((with_reducible refine BIF.s (fun h => absurd h ?_) (fun _ => ?_)); focus (first | (simp; done) | (simp; omega)))
      | ((with_reducible refine BIF.s (fun _ => ?_) (fun h => absurd h ?_)); rotate_left; focus (first | (simp; done) | (simp; omega)))
      | ((with_reducible refine BIF.dec ?_ ?_) <;> intro _)
      | ((with_reducible refine BIF.s ?_ ?_) <;> intro _)
      | (with_reducible refine NEXTK.normal ?_)
      | (with_reducible refine NEXTK.ret ?_)
      | (with_reducible refine NEXTK.exit ?_)
      | (with_reducible refine SEQ.plain ?_)
      | (with_reducible refine hK _ _ ?_)
      | ((with_reducible refine RUNL.agg (fun _ => ?_) ?_); (focus kernel_rfl))
      | (with_reducible refine RUNL.run ?_)
      | ((with_reducible refine AR.ok ?_ ?_); exact ⟨by first | omega | (dsimp only; omega), by first | omega | (dsimp only; omega)⟩)
      | (with_reducible refine AR.wr ?_)
      | ((with_reducible intro w3 e3); try have z3 := cutLe e3)
      | ((with_reducible intro h3); have h4 := Nat.le_of_lt h3; clear h4)))
    refine callY (g := 19) (by kernel_rfl) ⟨_, fun x => toRepS_c _ _ _ xs1 _ (hr1.ext x (mAddr_Non _)) hn1 (by omega), fun r w18 e18 oE => ?_⟩
    have sz18 := e18.size
    have apoAoE := oA.apart oE
    have apoAAoE := oAA.apart oE
    have apoWoE := oW.apart oE
    have apoXoE := moX.apart oE
    have apoYoE := moY.apart oE
    have apoGoE := moG.apart oE
    have apoBoE := oB.apart oE
    have apoDoE := oD.apart oE
    have apoCoE := oC.apart oE
    obtain ⟨boE, doE, rfl, qoE, poE⟩ := oE.rowx
    have looE := Nat.le_refl 0
    replace oA := oA.e0 e18
    replace oAA := oAA.e0 e18
    replace oW := oW.e0 e18
    replace moX := moX.e0 e18
    replace moY := moY.e0 e18
    replace moG := moG.e0 e18
    replace oB := oB.e0 e18
    replace oD := oD.e0 e18
    replace oC := oC.e0 e18
    repeat (any_goals (
      conv => whnf
      first
      | ((with_reducible refine BIF.s (fun h => absurd h ?_) (fun _ => ?_)); focus (first | (simp; done) | (simp; omega)))
      | ((with_reducible refine BIF.s (fun _ => ?_) (fun h => absurd h ?_)); rotate_left; focus (first | (simp; done) | (simp; omega)))
      | ((with_reducible refine BIF.dec ?_ ?_) <;> intro _)
      | ((with_reducible refine BIF.s ?_ ?_) <;> intro _)
      | (with_reducible refine NEXTK.normal ?_)
      | (with_reducible refine NEXTK.ret ?_)
      | (with_reducible refine NEXTK.exit ?_)
      | (with_reducible refine SEQ.plain ?_)
      | (with_reducible refine hK _ _ ?_)
      | ((with_reducible refine RUNL.agg (fun _ => ?_) ?_); (focus kernel_rfl))
      | (with_reducible refine RUNL.run ?_)
      | ((with_reducible refine AR.ok ?_ ?_); exact ⟨by first | omega | (dsimp only; omega), by first | omega | (dsimp only; omega)⟩)
      | (with_reducible refine AR.wr ?_)
      | ((with_reducible intro w3 e3); try have z3 := cutLe e3)
      | ((with_reducible intro h3); have h4 := Nat.le_of_lt h3; clear h4)))
    refine callY (g := 26) (by kernel_rfl) ⟨_, fun x => WorstSheets_c _ _ _ _ _ _ xs0 xs1 _ _ oC.row.1 oE.row.1 rfl rfl (by omega) (by omega) poE, fun r w19 e19 hoH => ?_⟩
    obtain ⟨voH, rfl, oH⟩ := hoH
    have sz19 := e19.size
    have apoAoH := oA.apart oH
    have apoAAoH := oAA.apart oH
    have apoWoH := oW.apart oH
    have apoXoH := moX.apart oH
    have apoYoH := moY.apart oH
    have apoGoH := moG.apart oH
    have apoBoH := oB.apart oH
    have apoDoH := oD.apart oH
    have apoCoH := oC.apart oH
    have apoEoH := oE.apart oH
    obtain ⟨boH, doH, rfl, qoH, poH⟩ := oH.rowx
    replace oA := oA.e0 e19
    replace oAA := oAA.e0 e19
    replace oW := oW.e0 e19
    replace moX := moX.e0 e19
    replace moY := moY.e0 e19
    replace moG := moG.e0 e19
    replace oB := oB.e0 e19
    replace oD := oD.e0 e19
    replace oC := oC.e0 e19
    replace oE := oE.e0 e19
    repeat (any_goals (
      conv => whnf
      first
      | ((with_reducible refine BIF.s (fun h => absurd h ?_) (fun _ => ?_)); focus (first | (simp; done) | (simp; omega)))
      | ((with_reducible refine BIF.s (fun _ => ?_) (fun h => absurd h ?_)); rotate_left; focus (first | (simp; done) | (simp; omega)))
      | ((with_reducible refine BIF.dec ?_ ?_) <;> intro _)
      | ((with_reducible refine BIF.s ?_ ?_) <;> intro _)
      | (with_reducible refine NEXTK.normal ?_)
      | (with_reducible refine NEXTK.ret ?_)
      | (with_reducible refine NEXTK.exit ?_)
      | (with_reducible refine SEQ.plain ?_)
      | (with_reducible refine hK _ _ ?_)
      | ((with_reducible refine RUNL.agg (fun _ => ?_) ?_); (focus kernel_rfl))
      | (with_reducible refine RUNL.run ?_)
      | ((with_reducible refine AR.ok ?_ ?_); exact ⟨by first | omega | (dsimp only; omega), by first | omega | (dsimp only; omega)⟩)
      | (with_reducible refine AR.wr ?_)
      | ((with_reducible intro w3 e3); try have z3 := cutLe e3)
      | ((with_reducible intro h3); have h4 := Nat.le_of_lt h3; clear h4)))
    refine callF (g := 12) (by kernel_rfl) ⟨_, eqIntS_c _ _ _ _ _ _ _ _ _ oH.row.1 oW.row.1 rfl rfl (by omega) (by omega), fun w20 e20 => ?_⟩
    have sz20 := e20.size
    replace oA := oA.e0 e20
    replace oAA := oAA.e0 e20
    replace oW := oW.e0 e20
    replace moX := moX.e0 e20
    replace moY := moY.e0 e20
    replace moG := moG.e0 e20
    replace oB := oB.e0 e20
    replace oD := oD.e0 e20
    replace oC := oC.e0 e20
    replace oE := oE.e0 e20
    replace oH := oH.e0 e20
    repeat (any_goals (
      conv => whnf
      first
      | ((with_reducible refine BIF.s (fun h => absurd h ?_) (fun _ => ?_)); focus (first | (simp; done) | (simp; omega)))
      | ((with_reducible refine BIF.s (fun _ => ?_) (fun h => absurd h ?_)); rotate_left; focus (first | (simp; done) | (simp; omega)))
      | ((with_reducible refine BIF.dec ?_ ?_) <;> intro _)
      | ((with_reducible refine BIF.s ?_ ?_) <;> intro _)
      | (with_reducible refine NEXTK.normal ?_)
      | (with_reducible refine NEXTK.ret ?_)
      | (with_reducible refine NEXTK.exit ?_)
      | (with_reducible refine SEQ.plain ?_)
      | (with_reducible refine hK _ _ ?_)
      | ((with_reducible refine RUNL.agg (fun _ => ?_) ?_); (focus kernel_rfl))
      | (with_reducible refine RUNL.run ?_)
      | ((with_reducible refine AR.ok ?_ ?_); exact ⟨by first | omega | (dsimp only; omega), by first | omega | (dsimp only; omega)⟩)
      | (with_reducible refine AR.wr ?_)
      | ((with_reducible intro w3 e3); try have z3 := cutLe e3)
      | ((with_reducible intro h3); have h4 := Nat.le_of_lt h3; clear h4)))
    refine callF (g := 16) (by kernel_rfl) ⟨_, heldIntS_c _ _ _ _ _ moG.row.1 (by omega) (by omega), fun w21 e21 => ?_⟩
    have sz21 := e21.size
    replace oA := oA.e0 e21
    replace oAA := oAA.e0 e21
    replace oW := oW.e0 e21
    replace moX := moX.e0 e21
    replace moY := moY.e0 e21
    replace moG := moG.e0 e21
    replace oB := oB.e0 e21
    replace oD := oD.e0 e21
    replace oC := oC.e0 e21
    replace oE := oE.e0 e21
    replace oH := oH.e0 e21
    repeat (any_goals (
      conv => whnf
      first
      | ((with_reducible refine BIF.s (fun h => absurd h ?_) (fun _ => ?_)); focus (first | (simp; done) | (simp; omega)))
      | ((with_reducible refine BIF.s (fun _ => ?_) (fun h => absurd h ?_)); rotate_left; focus (first | (simp; done) | (simp; omega)))
      | ((with_reducible refine BIF.dec ?_ ?_) <;> intro _)
      | ((with_reducible refine BIF.s ?_ ?_) <;> intro _)
      | (with_reducible refine NEXTK.normal ?_)
      | (with_reducible refine NEXTK.ret ?_)
      | (with_reducible refine NEXTK.exit ?_)
      | (with_reducible refine SEQ.plain ?_)
      | (with_reducible refine hK _ _ ?_)
      | ((with_reducible refine RUNL.agg (fun _ => ?_) ?_); (focus kernel_rfl))
      | (with_reducible refine RUNL.run ?_)
      | ((with_reducible refine AR.ok ?_ ?_); exact ⟨by first | omega | (dsimp only; omega), by first | omega | (dsimp only; omega)⟩)
      | (with_reducible refine AR.wr ?_)
      | ((with_reducible intro w3 e3); try have z3 := cutLe e3)
      | ((with_reducible intro h3); have h4 := Nat.le_of_lt h3; clear h4)))
    intro hx
    exact ⟨rfl, hx⟩
set_option maxRecDepth 100000 in
theorem FnExactWorstSheets_lifted (os : Os) (started : os.Started) (H : Type) (enc : TypeId × Value → H) :
    ReturnsInHanded {} Try.checked os 6 .any (Rows.fnExactWorstSheetsSpec.pre6 enc Try.prog Try.f6 Rows.fnExactWorstSheetsRow.domain false) (Rows.fnExactWorstSheetsSpec.post enc Try.prog Try.f6 false true false false) := by
  refine returnsInHanded_of_change (C := Try.checked) own started (by kernel_rfl) Try.func6
    (ChangeSpec.witness6 (enc := enc) (C := Try.checked) false ⟨#[], #[.slice none 0 0, .slice none 0 0, .int .i64 0], []⟩ 8 (by kernel_rfl) (by kernel_rfl) (by kernel_rfl) (by kernel_rfl)) ?_
  intro W base args ds gs before hval0 hW hcnd _
  have hval : ∀ (j : Nat) t v, Try.f6.params[j]? = some t → args[j]? = some v → Value.okWide Try.prog W .any base t v := hval0
  have hW' := hW
  obtain ⟨p, q, hA0, hV, rfl, hfz, hnd⟩ := hW
  have hA : DataW.TrodAll enc Try.prog W 0 (fun _ => true) true Try.f6.params.toList args.toList ds p := hA0
  rw [Try.params6] at hA hval
  obtain ⟨v0, vs0, d0, ds0, p0, q0, hargs, rfl, rfl, h0, r0⟩ := trodAll_cons hA
  obtain ⟨v1, vs1, d1, ds1, p1, q1, rfl, rfl, rfl, h1, r1⟩ := trodAll_cons r0
  obtain ⟨v2, vs2, d2, ds2, p2, q2, rfl, rfl, rfl, h2, r2⟩ := trodAll_cons r1
  obtain ⟨rfl, rfl, rfl⟩ := trodAll_nil r2
  obtain rfl : args = #[v0, v1, v2] := by cases args; simp_all
  obtain ⟨rfl, rfl⟩ := trodVars_none hV
  obtain ⟨a0, n0, c0, rfl⟩ := okWide_slice Try.underlying22 (hval 0 22 v0 rfl rfl)
  have k0 := h0
  have lt0 : ∀ x ∈ p0, x.block < W.heap.size := by obtain ⟨m, hm⟩ := k0; exact DataW.trod_lt m _ _ _ hm
  obtain ⟨xs0, w0, l0, b0, g0⟩ := open_rows Try.underlying22 (by kernel_rfl) cellsDmg h0
  obtain ⟨a1, n1, c1, rfl⟩ := okWide_slice Try.underlying34 (hval 1 34 v1 rfl rfl)
  have k1 := h1
  have lt1 : ∀ x ∈ p1, x.block < W.heap.size := by obtain ⟨m, hm⟩ := k1; exact DataW.trod_lt m _ _ _ hm
  obtain ⟨xs1, w1, l1, b1, g1⟩ := open_rows Try.underlying34 (by kernel_rfl) cellsRep h1
  obtain ⟨a2, rfl, rfl, rfl, w2⟩ := open_int Try.underlying3 (hval 2 3 v2 rfl rfl) h2
  clear hA0 hval0
  refine (FnExactWorstSheets_w W a0 n0 c0 xs0 w0 l0 b0 g0 a1 n1 c1 xs1 w1 l1 b1 g1 a2 (wf64 w2)).mono fun e W' ⟨he, x⟩ => ?_
  subst he
  have bel := x.toBelow
  exact ⟨_, rfl, _, _, _, [], _, [], hW', trodAll_mk1 (shut_bool Try.underlying4 _), (trodAll_cons_mk (Below.trod laidOut (by kernel_rfl) (of_decide_eq_true (by kernel_rfl)) k0 bel lt0) (trodAll_cons_mk (Below.trod laidOut (by kernel_rfl) (of_decide_eq_true (by kernel_rfl)) k1 bel lt1) (trodAll_cons_mk (shut_int Try.underlying3 w2) trodAll_mk0))), rfl, bel.frame _, fun h => by cases h⟩
theorem FnExactWorstSheets_holds : Rows.fnExactWorstSheetsRow.holds Try.pinned (OpenSpec.ofChange Rows.fnExactWorstSheetsSpec) :=
  OpenClaim.holds_of_wide 6 Try.f6 rfl rfl rfl rfl rfl rfl rfl ⟨rfl, rfl, rfl, rfl, rfl⟩ rfl rfl rfl rfl rfl (by kernel_rfl) Try.func6 (by kernel_rfl)
    (of_decide_eq_true (by kernel_rfl)) (by unfold Func.isWrapper; first | (rw [if_pos (by decide +kernel)]; kernel_rfl) | (rw [if_neg (by decide +kernel)]; exact ⟨rfl, rfl⟩))
    (fun os started H enc _ => FnExactWorstSheets_lifted os started H enc)
end Go.Proofs.Ytgopcppegjhmiaa

/- FnExactMergeTwo returns true for every argument and leaves its arguments as they were. -/
import Derived.Test.YtpddilkonkkppaaGreatDoorRows
import Derived.Test.YtpddilkonkkppaaGreatDoorTwo2
import Derived.Test.YtpddilkonkkppaaGreatDoorTalk
import Derived.Test.YtpddilkonkkppaaGreatDoorCards
import Derived.Test.YtpddilkonkkppaaGreatDoorTie
import Derived.LaidMore
import Derived.Stop.Joined
import Derived.SevenTiedAt
import Derived.Handed
namespace Go.Proofs.YtpddilkonkkppaaGreatDoor
open Go Go.X Go.Proofs Go.ChangeShapes Go.WideShapes Go.ChangeAt Go.RowKit
open Go.ChangeMaps (open_string shut_string)
set_option maxHeartbeats 1000000
set_option maxRecDepth 20000
set_option linter.unusedVariables false
set_option linter.unusedSimpArgs false
set_option maxHeartbeats 4000000 in
theorem FnExactMergeTwo_w (w : World) (hT : Tab w) (a0 : Option Addr) (n0 c0 : Nat) (ts : List Tri) (hr0 : Row w a0 6 (ts.map encT)) (hn0 : ts.length = n0) (hm0 : n0 ≤ 9223372036854775807) (hg0 : ∀ x ∈ ts, goodT w x) (i1 : Int) (h1 : -9223372036854775808 ≤ i1 ∧ i1 ≤ 9223372036854775807) (i2 : Int) (h2 : -9223372036854775808 ≤ i2 ∧ i2 ≤ 9223372036854775807) :
    Calls Tryz.prog 3 #[.slice a0 n0 c0, .int .i64 i1, .int .i64 i2] w fun e w' => e = .returned (.bool true) ∧ E0 w w' := by
  refine enterK Non 143 Tryz.func3 rfl rfl rfl fun K hK => ?_
  have hs0 : SeenAt w ts := fun t ht => (hg0 t ht).1
  repeat (any_goals (
    conv => whnf
    first
    | ((with_reducible refine BIF.dec ?_ ?_) <;> intro _)
    | ((with_reducible refine BIF.s ?_ ?_) <;> intro _)
    | (with_reducible refine NEXTK.normal ?_)
    | (with_reducible refine NEXTK.ret ?_)
    | (with_reducible refine NEXTK.exit ?_)
    | (with_reducible refine SEQ.plain ?_)
    | (with_reducible refine hK _ _ ?_)
    | ((with_reducible refine RUNL.agg (fun _ => ?_) ?_); (focus kernel_rfl))
    | (with_reducible refine RUNL.run ?_)
    | ((with_reducible refine AR.ok ?_ ?_); exact ⟨by first | omega | (dsimp only; omega), by first | omega | (dsimp only; omega)⟩)
    | (with_reducible refine AR.wr ?_)
    | ((with_reducible intro w3 e3); try have z3 := cutLe e3)
    | ((with_reducible intro h3); have h4 := Nat.le_of_lt h3; clear h4)))
  conv => whnf
  refine callY (g := 5) (by kernel_rfl) ⟨_, fun x => szEntryS_c _ _ _ ts _ _ (hr0.ext x (mAddr_Non _)) hn0 (by omega) (fun t ht => (hg0 t ht).2) (by omega), fun r wz ez hz => ?_⟩
  obtain ⟨vz, rfl, hvz⟩ := hz
  have zz := cutLe ez
  by_cases hneg : vz < 0
  · repeat (any_goals (
      conv => whnf
      first
      | ((with_reducible refine BIF.dec ?_ ?_) <;> intro _)
      | ((exfalso; omega))
      | ((with_reducible refine BIF.dec ?_ ?_) <;> intro _)
      | ((with_reducible refine BIF.s ?_ ?_) <;> intro _)
      | (with_reducible refine NEXTK.normal ?_)
      | (with_reducible refine NEXTK.ret ?_)
      | (with_reducible refine NEXTK.exit ?_)
      | (with_reducible refine SEQ.plain ?_)
      | (with_reducible refine hK _ _ ?_)
      | ((with_reducible refine RUNL.agg (fun _ => ?_) ?_); (focus kernel_rfl))
      | (with_reducible refine RUNL.run ?_)
      | ((with_reducible refine AR.ok ?_ ?_); exact ⟨by first | omega | (dsimp only; omega), by first | omega | (dsimp only; omega)⟩)
      | (with_reducible refine AR.wr ?_)
      | ((with_reducible intro w3 e3); try have z3 := cutLe e3)
      | ((with_reducible intro h3); have h4 := Nat.le_of_lt h3; clear h4)))
    intro hx
    exact ⟨rfl, hx⟩
  · have hbig : n0 ≤ 1048576 := by omega
    have hln : lens ts ≤ 1048576 := by omega
    have hzs : ∀ t ∈ ts, t.1.fSeen.length ≤ 1048576 := fun t ht => by have := lens_mem ht; omega
    have hsz : sizT ts := fun t ht => ⟨by have := hzs t ht; omega, by have := (hg0 t ht).2.2.1; unfold maxLen at this; omega, by have := (hg0 t ht).2.2.2.1; unfold maxLen at this; omega⟩
    repeat (any_goals (
      conv => whnf
      first
      | ((with_reducible refine BIF.dec ?_ ?_) <;> intro _)
      | ((exfalso; omega))
      | ((with_reducible refine BIF.dec ?_ ?_) <;> intro _)
      | ((with_reducible refine BIF.s ?_ ?_) <;> intro _)
      | (with_reducible refine NEXTK.normal ?_)
      | (with_reducible refine NEXTK.ret ?_)
      | (with_reducible refine NEXTK.exit ?_)
      | (with_reducible refine SEQ.plain ?_)
      | (with_reducible refine hK _ _ ?_)
      | ((with_reducible refine RUNL.agg (fun _ => ?_) ?_); (focus kernel_rfl))
      | (with_reducible refine RUNL.run ?_)
      | ((with_reducible refine AR.ok ?_ ?_); exact ⟨by first | omega | (dsimp only; omega), by first | omega | (dsimp only; omega)⟩)
      | (with_reducible refine AR.wr ?_)
      | ((with_reducible intro w3 e3); try have z3 := cutLe e3)
      | ((with_reducible intro h3); have h4 := Nat.le_of_lt h3; clear h4)))
    have hcl := mergeTwo_len (ts.map (·.1)) i1 i2
    refine callY (g := 7) (by kernel_rfl) ⟨_, fun x => toEntryS_c _ _ _ ts _ (hr0.ext x (mAddr_Non _)) (fun t ht => (hs0 t ht).ext x (mAddr_Non _)) hn0 (by omega) hzs, fun r w1 e1 hoA => ?_⟩
    obtain ⟨toA, uoA, oA⟩ := hoA
    have sz1 := e1.size
    obtain ⟨aoA, coA, rfl, qoA, poA⟩ := oA.top.rowx
    have loA : toA.length = n0 := by have := congrArg List.length uoA; simpa [hn0] using this
    have boA := fun b hb => oA.blk b hb
    have zoA : ∀ t ∈ toA, t.1.fSeen.length ≤ 1048576 := fun t ht => lenT_eq hzs uoA t ht
    repeat (any_goals (
      conv => whnf
      first
      | ((with_reducible refine BIF.s (fun h => absurd h ?_) (fun _ => ?_)); focus (first | (simp; done) | (simp; omega)))
      | ((with_reducible refine BIF.s (fun _ => ?_) (fun h => absurd h ?_)); rotate_left; focus (first | (simp; done) | (simp; omega)))
      | ((with_reducible refine BIF.dec (fun h => absurd h ?_) (fun _ => ?_)); (focus (rw [nxEs_eq]; omega)))
      | ((with_reducible refine BIF.bne (fun h => absurd rfl h) (fun _ => ?_)))
      | ((with_reducible refine BIF.dec ?_ ?_) <;> intro _)
      | ((with_reducible refine BIF.s ?_ ?_) <;> intro _)
      | (with_reducible refine NEXTK.normal ?_)
      | (with_reducible refine NEXTK.ret ?_)
      | (with_reducible refine NEXTK.exit ?_)
      | (with_reducible refine SEQ.plain ?_)
      | (with_reducible refine hK _ _ ?_)
      | ((with_reducible refine RUNL.agg (fun _ => ?_) ?_); (focus kernel_rfl))
      | (with_reducible refine RUNL.run ?_)
      | ((with_reducible refine AR.ok ?_ ?_); exact ⟨by first | omega | (dsimp only; omega), by first | omega | (dsimp only; omega)⟩)
      | (with_reducible refine AR.wr ?_)
      | ((with_reducible intro w3 e3); try have z3 := cutLe e3)
      | ((with_reducible intro h3); have h4 := Nat.le_of_lt h3; clear h4)))
    refine callY (g := 6) (by kernel_rfl) ⟨_, fun x => MergeTwoS_c _ _ _ toA _ _ _ oA.top.row.1 oA.seen rfl (by omega) (sizT_eq hsz uoA), fun r w2 e2 hoW => ?_⟩
    obtain ⟨soW, toW, koW, rfl, voW, oW, oWc⟩ := hoW
    rw [uoA] at voW oWc ⊢
    have sz2 := e2.size
    replace oA := oA.e0 e2
    obtain ⟨aoW, coW, rfl, qoW, poW⟩ := oW.top.rowx
    have boW := fun b hb => oW.blk b hb
    have yoW := bndMergeTwo voW
    obtain ⟨aoWc, doWc, rfl, qoWc, poWc⟩ := oWc.rowx
    have boWc := fun b hb => oWc.block (k := b) hb
    repeat (any_goals (
      conv => whnf
      first
      | ((with_reducible refine BIF.s (fun h => absurd h ?_) (fun _ => ?_)); focus (first | (simp; done) | (simp; omega)))
      | ((with_reducible refine BIF.s (fun _ => ?_) (fun h => absurd h ?_)); rotate_left; focus (first | (simp; done) | (simp; omega)))
      | ((with_reducible refine BIF.dec (fun h => absurd h ?_) (fun _ => ?_)); (focus (rw [nxEs_eq]; omega)))
      | ((with_reducible refine BIF.bne (fun h => absurd rfl h) (fun _ => ?_)))
      | ((with_reducible refine BIF.dec ?_ ?_) <;> intro _)
      | ((with_reducible refine BIF.s ?_ ?_) <;> intro _)
      | (with_reducible refine NEXTK.normal ?_)
      | (with_reducible refine NEXTK.ret ?_)
      | (with_reducible refine NEXTK.exit ?_)
      | (with_reducible refine SEQ.plain ?_)
      | (with_reducible refine hK _ _ ?_)
      | ((with_reducible refine RUNL.agg (fun _ => ?_) ?_); (focus kernel_rfl))
      | (with_reducible refine RUNL.run ?_)
      | ((with_reducible refine AR.ok ?_ ?_); exact ⟨by first | omega | (dsimp only; omega), by first | omega | (dsimp only; omega)⟩)
      | (with_reducible refine AR.wr ?_)
      | ((with_reducible intro w3 e3); try have z3 := cutLe e3)
      | ((with_reducible intro h3); have h4 := Nat.le_of_lt h3; clear h4)))
    refine callY (g := 7) (by kernel_rfl) ⟨_, fun x => toEntryS_c _ _ _ ts _ (hr0.ext x (mAddr_Non _)) (fun t ht => (hs0 t ht).ext x (mAddr_Non _)) hn0 (by omega) hzs, fun r w3 e3 hoX => ?_⟩
    obtain ⟨toX, uoX, oX⟩ := hoX
    have sz3 := e3.size
    replace oA := oA.e0 e3
    replace oW := oW.e0 e3
    replace oWc := oWc.e0 e3
    obtain ⟨aoX, coX, rfl, qoX, poX⟩ := oX.top.rowx
    have loX : toX.length = n0 := by have := congrArg List.length uoX; simpa [hn0] using this
    have boX := fun b hb => oX.blk b hb
    have zoX : ∀ t ∈ toX, t.1.fSeen.length ≤ 1048576 := fun t ht => lenT_eq hzs uoX t ht
    repeat (any_goals (
      conv => whnf
      first
      | ((with_reducible refine BIF.s (fun h => absurd h ?_) (fun _ => ?_)); focus (first | (simp; done) | (simp; omega)))
      | ((with_reducible refine BIF.s (fun _ => ?_) (fun h => absurd h ?_)); rotate_left; focus (first | (simp; done) | (simp; omega)))
      | ((with_reducible refine BIF.dec (fun h => absurd h ?_) (fun _ => ?_)); (focus (rw [nxEs_eq]; omega)))
      | ((with_reducible refine BIF.bne (fun h => absurd rfl h) (fun _ => ?_)))
      | ((with_reducible refine BIF.dec ?_ ?_) <;> intro _)
      | ((with_reducible refine BIF.s ?_ ?_) <;> intro _)
      | (with_reducible refine NEXTK.normal ?_)
      | (with_reducible refine NEXTK.ret ?_)
      | (with_reducible refine NEXTK.exit ?_)
      | (with_reducible refine SEQ.plain ?_)
      | (with_reducible refine hK _ _ ?_)
      | ((with_reducible refine RUNL.agg (fun _ => ?_) ?_); (focus kernel_rfl))
      | (with_reducible refine RUNL.run ?_)
      | ((with_reducible refine AR.ok ?_ ?_); exact ⟨by first | omega | (dsimp only; omega), by first | omega | (dsimp only; omega)⟩)
      | (with_reducible refine AR.wr ?_)
      | ((with_reducible intro w3 e3); try have z3 := cutLe e3)
      | ((with_reducible intro h3); have h4 := Nat.le_of_lt h3; clear h4)))
    refine callY (g := 8) (by kernel_rfl) ⟨_, fun x => MergeTwo_c _ _ _ toX _ _ _ (TabIs.e0 hT x) oX.top.row.1 oX.seen rfl (by omega) (by omega) (fun t ht => by have := zoX t ht; omega), fun r w4 e4 hoG => ?_⟩
    obtain ⟨soG, toG, koG, rfl, voG, oG, oGc⟩ := hoG
    rw [uoX] at voG oGc ⊢
    have sz4 := e4.size
    replace oA := oA.e0 e4
    replace oW := oW.e0 e4
    replace oX := oX.e0 e4
    replace oWc := oWc.e0 e4
    obtain ⟨aoG, coG, rfl, qoG, poG⟩ := oG.top.rowx
    have boG := fun b hb => oG.blk b hb
    have yoG := bndMergeTwo voG
    obtain ⟨aoGc, doGc, rfl, qoGc, poGc⟩ := oGc.rowx
    have boGc := fun b hb => oGc.block (k := b) hb
    repeat (any_goals (
      conv => whnf
      first
      | ((with_reducible refine BIF.s (fun h => absurd h ?_) (fun _ => ?_)); focus (first | (simp; done) | (simp; omega)))
      | ((with_reducible refine BIF.s (fun _ => ?_) (fun h => absurd h ?_)); rotate_left; focus (first | (simp; done) | (simp; omega)))
      | ((with_reducible refine BIF.dec (fun h => absurd h ?_) (fun _ => ?_)); (focus (rw [nxEs_eq]; omega)))
      | ((with_reducible refine BIF.bne (fun h => absurd rfl h) (fun _ => ?_)))
      | ((with_reducible refine BIF.dec ?_ ?_) <;> intro _)
      | ((with_reducible refine BIF.s ?_ ?_) <;> intro _)
      | (with_reducible refine NEXTK.normal ?_)
      | (with_reducible refine NEXTK.ret ?_)
      | (with_reducible refine NEXTK.exit ?_)
      | (with_reducible refine SEQ.plain ?_)
      | (with_reducible refine hK _ _ ?_)
      | ((with_reducible refine RUNL.agg (fun _ => ?_) ?_); (focus kernel_rfl))
      | (with_reducible refine RUNL.run ?_)
      | ((with_reducible refine AR.ok ?_ ?_); exact ⟨by first | omega | (dsimp only; omega), by first | omega | (dsimp only; omega)⟩)
      | (with_reducible refine AR.wr ?_)
      | ((with_reducible intro w3 e3); try have z3 := cutLe e3)
      | ((with_reducible intro h3); have h4 := Nat.le_of_lt h3; clear h4)))
    refine callF (g := 9) (by kernel_rfl) ⟨_, eqEntryS_c _ _ _ _ _ _ toG toW _ oG.top.row.1 oG.seen oW.top.row.1 oW.seen rfl rfl (by omega) (by omega) (fun t ht => by have := yoG.2.1 t ht; omega) (fun t ht => by have := yoW.2.1 t ht; omega), fun w5 e5 => ?_⟩
    rw [decide_eq_true (show toG.map (·.1) = toW.map (·.1) by rw [voG, voW])]
    have sz5 := e5.size
    replace oA := oA.e0 e5
    replace oW := oW.e0 e5
    replace oX := oX.e0 e5
    replace oG := oG.e0 e5
    replace oWc := oWc.e0 e5
    replace oGc := oGc.e0 e5
    repeat (any_goals (
      conv => whnf
      first
      | ((with_reducible refine BIF.s (fun h => absurd h ?_) (fun _ => ?_)); focus (first | (simp; done) | (simp; omega)))
      | ((with_reducible refine BIF.s (fun _ => ?_) (fun h => absurd h ?_)); rotate_left; focus (first | (simp; done) | (simp; omega)))
      | ((with_reducible refine BIF.dec (fun h => absurd h ?_) (fun _ => ?_)); (focus (rw [nxEs_eq]; omega)))
      | ((with_reducible refine BIF.bne (fun h => absurd rfl h) (fun _ => ?_)))
      | ((with_reducible refine BIF.dec ?_ ?_) <;> intro _)
      | ((with_reducible refine BIF.s ?_ ?_) <;> intro _)
      | (with_reducible refine NEXTK.normal ?_)
      | (with_reducible refine NEXTK.ret ?_)
      | (with_reducible refine NEXTK.exit ?_)
      | (with_reducible refine SEQ.plain ?_)
      | (with_reducible refine hK _ _ ?_)
      | ((with_reducible refine RUNL.agg (fun _ => ?_) ?_); (focus kernel_rfl))
      | (with_reducible refine RUNL.run ?_)
      | ((with_reducible refine AR.ok ?_ ?_); exact ⟨by first | omega | (dsimp only; omega), by first | omega | (dsimp only; omega)⟩)
      | (with_reducible refine AR.wr ?_)
      | ((with_reducible intro w3 e3); try have z3 := cutLe e3)
      | ((with_reducible intro h3); have h4 := Nat.le_of_lt h3; clear h4)))
    refine callF (g := 10) (by kernel_rfl) ⟨_, eqClaS_c _ _ _ _ _ _ _ _ _ oGc.row.1 oWc.row.1 rfl rfl (by omega) (by omega), fun w6 e6 => ?_⟩
    have sz6 := e6.size
    replace oA := oA.e0 e6
    replace oW := oW.e0 e6
    replace oX := oX.e0 e6
    replace oG := oG.e0 e6
    replace oWc := oWc.e0 e6
    replace oGc := oGc.e0 e6
    repeat (any_goals (
      conv => whnf
      first
      | ((with_reducible refine BIF.s (fun h => absurd h ?_) (fun _ => ?_)); focus (first | (simp; done) | (simp; omega)))
      | ((with_reducible refine BIF.s (fun _ => ?_) (fun h => absurd h ?_)); rotate_left; focus (first | (simp; done) | (simp; omega)))
      | ((with_reducible refine BIF.dec (fun h => absurd h ?_) (fun _ => ?_)); (focus (rw [nxEs_eq]; omega)))
      | ((with_reducible refine BIF.bne (fun h => absurd rfl h) (fun _ => ?_)))
      | ((with_reducible refine BIF.dec ?_ ?_) <;> intro _)
      | ((with_reducible refine BIF.s ?_ ?_) <;> intro _)
      | (with_reducible refine NEXTK.normal ?_)
      | (with_reducible refine NEXTK.ret ?_)
      | (with_reducible refine NEXTK.exit ?_)
      | (with_reducible refine SEQ.plain ?_)
      | (with_reducible refine hK _ _ ?_)
      | ((with_reducible refine RUNL.agg (fun _ => ?_) ?_); (focus kernel_rfl))
      | (with_reducible refine RUNL.run ?_)
      | ((with_reducible refine AR.ok ?_ ?_); exact ⟨by first | omega | (dsimp only; omega), by first | omega | (dsimp only; omega)⟩)
      | (with_reducible refine AR.wr ?_)
      | ((with_reducible intro w3 e3); try have z3 := cutLe e3)
      | ((with_reducible intro h3); have h4 := Nat.le_of_lt h3; clear h4)))
    refine callY (g := 7) (by kernel_rfl) ⟨_, fun x => toEntryS_c _ _ _ ts _ (hr0.ext x (mAddr_Non _)) (fun t ht => (hs0 t ht).ext x (mAddr_Non _)) hn0 (by omega) hzs, fun r w7 e7 hoB => ?_⟩
    obtain ⟨toB, uoB, oB⟩ := hoB
    have sz7 := e7.size
    replace oA := oA.e0 e7
    replace oW := oW.e0 e7
    replace oX := oX.e0 e7
    replace oG := oG.e0 e7
    replace oWc := oWc.e0 e7
    replace oGc := oGc.e0 e7
    obtain ⟨aoB, coB, rfl, qoB, poB⟩ := oB.top.rowx
    have loB : toB.length = n0 := by have := congrArg List.length uoB; simpa [hn0] using this
    have boB := fun b hb => oB.blk b hb
    have zoB : ∀ t ∈ toB, t.1.fSeen.length ≤ 1048576 := fun t ht => lenT_eq hzs uoB t ht
    repeat (any_goals (
      conv => whnf
      first
      | ((with_reducible refine BIF.s (fun h => absurd h ?_) (fun _ => ?_)); focus (first | (simp; done) | (simp; omega)))
      | ((with_reducible refine BIF.s (fun _ => ?_) (fun h => absurd h ?_)); rotate_left; focus (first | (simp; done) | (simp; omega)))
      | ((with_reducible refine BIF.dec (fun h => absurd h ?_) (fun _ => ?_)); (focus (rw [nxEs_eq]; omega)))
      | ((with_reducible refine BIF.bne (fun h => absurd rfl h) (fun _ => ?_)))
      | ((with_reducible refine BIF.dec ?_ ?_) <;> intro _)
      | ((with_reducible refine BIF.s ?_ ?_) <;> intro _)
      | (with_reducible refine NEXTK.normal ?_)
      | (with_reducible refine NEXTK.ret ?_)
      | (with_reducible refine NEXTK.exit ?_)
      | (with_reducible refine SEQ.plain ?_)
      | (with_reducible refine hK _ _ ?_)
      | ((with_reducible refine RUNL.agg (fun _ => ?_) ?_); (focus kernel_rfl))
      | (with_reducible refine RUNL.run ?_)
      | ((with_reducible refine AR.ok ?_ ?_); exact ⟨by first | omega | (dsimp only; omega), by first | omega | (dsimp only; omega)⟩)
      | (with_reducible refine AR.wr ?_)
      | ((with_reducible intro w3 e3); try have z3 := cutLe e3)
      | ((with_reducible intro h3); have h4 := Nat.le_of_lt h3; clear h4)))
    refine callF (g := 9) (by kernel_rfl) ⟨_, eqEntryS_c _ _ _ _ _ _ toX toB _ oX.top.row.1 oX.seen oB.top.row.1 oB.seen rfl rfl (by omega) (by omega) (fun t ht => by have := zoX t ht; omega) (fun t ht => by have := zoB t ht; omega), fun w8 e8 => ?_⟩
    rw [decide_eq_true (show toX.map (·.1) = toB.map (·.1) by rw [uoX, uoB])]
    have sz8 := e8.size
    replace oA := oA.e0 e8
    replace oW := oW.e0 e8
    replace oX := oX.e0 e8
    replace oG := oG.e0 e8
    replace oB := oB.e0 e8
    replace oWc := oWc.e0 e8
    replace oGc := oGc.e0 e8
    repeat (any_goals (
      conv => whnf
      first
      | ((with_reducible refine BIF.s (fun h => absurd h ?_) (fun _ => ?_)); focus (first | (simp; done) | (simp; omega)))
      | ((with_reducible refine BIF.s (fun _ => ?_) (fun h => absurd h ?_)); rotate_left; focus (first | (simp; done) | (simp; omega)))
      | ((with_reducible refine BIF.dec (fun h => absurd h ?_) (fun _ => ?_)); (focus (rw [nxEs_eq]; omega)))
      | ((with_reducible refine BIF.bne (fun h => absurd rfl h) (fun _ => ?_)))
      | ((with_reducible refine BIF.dec ?_ ?_) <;> intro _)
      | ((with_reducible refine BIF.s ?_ ?_) <;> intro _)
      | (with_reducible refine NEXTK.normal ?_)
      | (with_reducible refine NEXTK.ret ?_)
      | (with_reducible refine NEXTK.exit ?_)
      | (with_reducible refine SEQ.plain ?_)
      | (with_reducible refine hK _ _ ?_)
      | ((with_reducible refine RUNL.agg (fun _ => ?_) ?_); (focus kernel_rfl))
      | (with_reducible refine RUNL.run ?_)
      | ((with_reducible refine AR.ok ?_ ?_); exact ⟨by first | omega | (dsimp only; omega), by first | omega | (dsimp only; omega)⟩)
      | (with_reducible refine AR.wr ?_)
      | ((with_reducible intro w3 e3); try have z3 := cutLe e3)
      | ((with_reducible intro h3); have h4 := Nat.le_of_lt h3; clear h4)))
    refine callM (g := 11) (by kernel_rfl) ⟨_, _, trivial, fun b hb h => by have := (boX b h).1; omega, markEntryS_c _ _ _ _ toX 1 _ oX rfl (by omega) (by rw [lens_eq (uoX : _ = ts.map (·.1))]; omega) (by omega), fun r w9 e9 h => ?_⟩
    obtain ⟨rfl, moX, foX, goX, xoX⟩ := h
    have sz9 := e9.size
    replace oA := oA.ext e9 (fun b hb h => by have := boA b hb; have := boX b h; omega)
    replace oW := oW.ext e9 (fun b hb h => by have := boW b hb; have := boX b h; omega)
    replace oG := oG.ext e9 (fun b hb h => by have := boG b hb; have := boX b h; omega)
    replace oB := oB.ext e9 (fun b hb h => by have := boB b hb; have := boX b h; omega)
    replace oWc := oWc.ext e9 (fun b hb h => by have := boWc b hb; have := boX b h; omega)
    replace oGc := oGc.ext e9 (fun b hb h => by have := boGc b hb; have := boX b h; omega)
    clear oX
    have bxoX := fun b hb => boX b (blksT_eq goX hb)
    repeat (any_goals (
      conv => whnf
      first
      | ((with_reducible refine BIF.s (fun h => absurd h ?_) (fun _ => ?_)); focus (first | (simp; done) | (simp; omega)))
      | ((with_reducible refine BIF.s (fun _ => ?_) (fun h => absurd h ?_)); rotate_left; focus (first | (simp; done) | (simp; omega)))
      | ((with_reducible refine BIF.dec (fun h => absurd h ?_) (fun _ => ?_)); (focus (rw [nxEs_eq]; omega)))
      | ((with_reducible refine BIF.bne (fun h => absurd rfl h) (fun _ => ?_)))
      | ((with_reducible refine BIF.dec ?_ ?_) <;> intro _)
      | ((with_reducible refine BIF.s ?_ ?_) <;> intro _)
      | (with_reducible refine NEXTK.normal ?_)
      | (with_reducible refine NEXTK.ret ?_)
      | (with_reducible refine NEXTK.exit ?_)
      | (with_reducible refine SEQ.plain ?_)
      | (with_reducible refine hK _ _ ?_)
      | ((with_reducible refine RUNL.agg (fun _ => ?_) ?_); (focus kernel_rfl))
      | (with_reducible refine RUNL.run ?_)
      | ((with_reducible refine AR.ok ?_ ?_); exact ⟨by first | omega | (dsimp only; omega), by first | omega | (dsimp only; omega)⟩)
      | (with_reducible refine AR.wr ?_)
      | ((with_reducible intro w3 e3); try have z3 := cutLe e3)
      | ((with_reducible intro h3); have h4 := Nat.le_of_lt h3; clear h4)))
    refine callF (g := 9) (by kernel_rfl) ⟨_, eqEntryS_c _ _ _ _ _ _ toG toW _ oG.top.row.1 oG.seen oW.top.row.1 oW.seen rfl rfl (by omega) (by omega) (fun t ht => by have := yoG.2.1 t ht; omega) (fun t ht => by have := yoW.2.1 t ht; omega), fun w10 e10 => ?_⟩
    rw [decide_eq_true (show toG.map (·.1) = toW.map (·.1) by rw [voG, voW])]
    have sz10 := e10.size
    replace oA := oA.e0 e10
    replace oW := oW.e0 e10
    replace xoX := xoX.e0 e10
    replace oG := oG.e0 e10
    replace oB := oB.e0 e10
    replace oWc := oWc.e0 e10
    replace oGc := oGc.e0 e10
    repeat (any_goals (
      conv => whnf
      first
      | ((with_reducible refine BIF.s (fun h => absurd h ?_) (fun _ => ?_)); focus (first | (simp; done) | (simp; omega)))
      | ((with_reducible refine BIF.s (fun _ => ?_) (fun h => absurd h ?_)); rotate_left; focus (first | (simp; done) | (simp; omega)))
      | ((with_reducible refine BIF.dec (fun h => absurd h ?_) (fun _ => ?_)); (focus (rw [nxEs_eq]; omega)))
      | ((with_reducible refine BIF.bne (fun h => absurd rfl h) (fun _ => ?_)))
      | ((with_reducible refine BIF.dec ?_ ?_) <;> intro _)
      | ((with_reducible refine BIF.s ?_ ?_) <;> intro _)
      | (with_reducible refine NEXTK.normal ?_)
      | (with_reducible refine NEXTK.ret ?_)
      | (with_reducible refine NEXTK.exit ?_)
      | (with_reducible refine SEQ.plain ?_)
      | (with_reducible refine hK _ _ ?_)
      | ((with_reducible refine RUNL.agg (fun _ => ?_) ?_); (focus kernel_rfl))
      | (with_reducible refine RUNL.run ?_)
      | ((with_reducible refine AR.ok ?_ ?_); exact ⟨by first | omega | (dsimp only; omega), by first | omega | (dsimp only; omega)⟩)
      | (with_reducible refine AR.wr ?_)
      | ((with_reducible intro w3 e3); try have z3 := cutLe e3)
      | ((with_reducible intro h3); have h4 := Nat.le_of_lt h3; clear h4)))
    refine callF (g := 10) (by kernel_rfl) ⟨_, eqClaS_c _ _ _ _ _ _ _ _ _ oGc.row.1 oWc.row.1 rfl rfl (by omega) (by omega), fun w11 e11 => ?_⟩
    have sz11 := e11.size
    replace oA := oA.e0 e11
    replace oW := oW.e0 e11
    replace xoX := xoX.e0 e11
    replace oG := oG.e0 e11
    replace oB := oB.e0 e11
    replace oWc := oWc.e0 e11
    replace oGc := oGc.e0 e11
    repeat (any_goals (
      conv => whnf
      first
      | ((with_reducible refine BIF.s (fun h => absurd h ?_) (fun _ => ?_)); focus (first | (simp; done) | (simp; omega)))
      | ((with_reducible refine BIF.s (fun _ => ?_) (fun h => absurd h ?_)); rotate_left; focus (first | (simp; done) | (simp; omega)))
      | ((with_reducible refine BIF.dec (fun h => absurd h ?_) (fun _ => ?_)); (focus (rw [nxEs_eq]; omega)))
      | ((with_reducible refine BIF.bne (fun h => absurd rfl h) (fun _ => ?_)))
      | ((with_reducible refine BIF.dec ?_ ?_) <;> intro _)
      | ((with_reducible refine BIF.s ?_ ?_) <;> intro _)
      | (with_reducible refine NEXTK.normal ?_)
      | (with_reducible refine NEXTK.ret ?_)
      | (with_reducible refine NEXTK.exit ?_)
      | (with_reducible refine SEQ.plain ?_)
      | (with_reducible refine hK _ _ ?_)
      | ((with_reducible refine RUNL.agg (fun _ => ?_) ?_); (focus kernel_rfl))
      | (with_reducible refine RUNL.run ?_)
      | ((with_reducible refine AR.ok ?_ ?_); exact ⟨by first | omega | (dsimp only; omega), by first | omega | (dsimp only; omega)⟩)
      | (with_reducible refine AR.wr ?_)
      | ((with_reducible intro w3 e3); try have z3 := cutLe e3)
      | ((with_reducible intro h3); have h4 := Nat.le_of_lt h3; clear h4)))
    have apoG := oG.apartC oGc
    refine callM (g := 11) (by kernel_rfl) ⟨_, _, trivial, fun b hb h => by have := (boG b h).1; omega, markEntryS_c _ _ _ _ toG 1 _ oG rfl (by omega) (by have := yoG.1; omega) (by omega), fun r w12 e12 h => ?_⟩
    obtain ⟨rfl, moG, foG, goG, xoG⟩ := h
    have sz12 := e12.size
    replace oA := oA.ext e12 (fun b hb h => by have := boA b hb; have := boG b h; omega)
    replace oW := oW.ext e12 (fun b hb h => by have := boW b hb; have := boG b h; omega)
    replace xoX := xoX.ext e12 (fun b hb h => by have := bxoX b hb; have := boG b h; omega)
    replace oB := oB.ext e12 (fun b hb h => by have := boB b hb; have := boG b h; omega)
    replace oWc := oWc.ext e12 (fun b hb h => by have := boWc b hb; have := boG b h; omega)
    replace oGc := oGc.ext e12 (fun b hb h => apoG b hb h)
    clear oG
    have bxoG := fun b hb => boG b (blksT_eq goG hb)
    repeat (any_goals (
      conv => whnf
      first
      | ((with_reducible refine BIF.s (fun h => absurd h ?_) (fun _ => ?_)); focus (first | (simp; done) | (simp; omega)))
      | ((with_reducible refine BIF.s (fun _ => ?_) (fun h => absurd h ?_)); rotate_left; focus (first | (simp; done) | (simp; omega)))
      | ((with_reducible refine BIF.dec (fun h => absurd h ?_) (fun _ => ?_)); (focus (rw [nxEs_eq]; omega)))
      | ((with_reducible refine BIF.bne (fun h => absurd rfl h) (fun _ => ?_)))
      | ((with_reducible refine BIF.dec ?_ ?_) <;> intro _)
      | ((with_reducible refine BIF.s ?_ ?_) <;> intro _)
      | (with_reducible refine NEXTK.normal ?_)
      | (with_reducible refine NEXTK.ret ?_)
      | (with_reducible refine NEXTK.exit ?_)
      | (with_reducible refine SEQ.plain ?_)
      | (with_reducible refine hK _ _ ?_)
      | ((with_reducible refine RUNL.agg (fun _ => ?_) ?_); (focus kernel_rfl))
      | (with_reducible refine RUNL.run ?_)
      | ((with_reducible refine AR.ok ?_ ?_); exact ⟨by first | omega | (dsimp only; omega), by first | omega | (dsimp only; omega)⟩)
      | (with_reducible refine AR.wr ?_)
      | ((with_reducible intro w3 e3); try have z3 := cutLe e3)
      | ((with_reducible intro h3); have h4 := Nat.le_of_lt h3; clear h4)))
    have bM := bxoG
    refine callM (g := 12) (by kernel_rfl) ⟨_, _, trivial, fun b hb h => by have := (boGc b h).1; omega, markClaS_c _ _ _ _ _ _ _ oGc rfl (by omega) (by rw [nxEs_eq]; have := yoG.1; omega), fun r w13 e13 h => ?_⟩
    obtain ⟨rfl, moGc⟩ := h
    have sz13 := e13.size
    replace oA := oA.ext e13 (fun b hb h => by have := boA b hb; have := boGc b h; omega)
    replace oW := oW.ext e13 (fun b hb h => by have := boW b hb; have := boGc b h; omega)
    replace xoX := xoX.ext e13 (fun b hb h => by have := bxoX b hb; have := boGc b h; omega)
    replace xoG := xoG.ext e13 (fun b hb h => apoG b h (blksT_eq goG hb))
    replace oB := oB.ext e13 (fun b hb h => by have := boB b hb; have := boGc b h; omega)
    replace oWc := oWc.ext e13 (fun b hb h => by have := boWc b hb; have := boGc b h; omega)
    clear oGc
    repeat (any_goals (
      conv => whnf
      first
      | ((with_reducible refine BIF.s (fun h => absurd h ?_) (fun _ => ?_)); focus (first | (simp; done) | (simp; omega)))
      | ((with_reducible refine BIF.s (fun _ => ?_) (fun h => absurd h ?_)); rotate_left; focus (first | (simp; done) | (simp; omega)))
      | ((with_reducible refine BIF.dec (fun h => absurd h ?_) (fun _ => ?_)); (focus (rw [nxEs_eq]; omega)))
      | ((with_reducible refine BIF.bne (fun h => absurd rfl h) (fun _ => ?_)))
      | ((with_reducible refine BIF.dec ?_ ?_) <;> intro _)
      | ((with_reducible refine BIF.s ?_ ?_) <;> intro _)
      | (with_reducible refine NEXTK.normal ?_)
      | (with_reducible refine NEXTK.ret ?_)
      | (with_reducible refine NEXTK.exit ?_)
      | (with_reducible refine SEQ.plain ?_)
      | (with_reducible refine hK _ _ ?_)
      | ((with_reducible refine RUNL.agg (fun _ => ?_) ?_); (focus kernel_rfl))
      | (with_reducible refine RUNL.run ?_)
      | ((with_reducible refine AR.ok ?_ ?_); exact ⟨by first | omega | (dsimp only; omega), by first | omega | (dsimp only; omega)⟩)
      | (with_reducible refine AR.wr ?_)
      | ((with_reducible intro w3 e3); try have z3 := cutLe e3)
      | ((with_reducible intro h3); have h4 := Nat.le_of_lt h3; clear h4)))
    refine callF (g := 13) (by kernel_rfl) ⟨_, heldEntryS_c _ _ _ moG (toG.map (·.1)) 1 _ xoG.top.row.1 xoG.seen foG (by rw [← List.length_map (f := (·.2)), goG, List.length_map]) (by omega) (by rw [lens_mk foG]; have := yoG.1; omega) (by omega), fun w14 e14 => ?_⟩
    have sz14 := e14.size
    replace oA := oA.e0 e14
    replace oW := oW.e0 e14
    replace xoX := xoX.e0 e14
    replace xoG := xoG.e0 e14
    replace oB := oB.e0 e14
    replace oWc := oWc.e0 e14
    replace moGc := moGc.e0 e14
    repeat (any_goals (
      conv => whnf
      first
      | ((with_reducible refine BIF.s (fun h => absurd h ?_) (fun _ => ?_)); focus (first | (simp; done) | (simp; omega)))
      | ((with_reducible refine BIF.s (fun _ => ?_) (fun h => absurd h ?_)); rotate_left; focus (first | (simp; done) | (simp; omega)))
      | ((with_reducible refine BIF.dec (fun h => absurd h ?_) (fun _ => ?_)); (focus (rw [nxEs_eq]; omega)))
      | ((with_reducible refine BIF.bne (fun h => absurd rfl h) (fun _ => ?_)))
      | ((with_reducible refine BIF.dec ?_ ?_) <;> intro _)
      | ((with_reducible refine BIF.s ?_ ?_) <;> intro _)
      | (with_reducible refine NEXTK.normal ?_)
      | (with_reducible refine NEXTK.ret ?_)
      | (with_reducible refine NEXTK.exit ?_)
      | (with_reducible refine SEQ.plain ?_)
      | (with_reducible refine hK _ _ ?_)
      | ((with_reducible refine RUNL.agg (fun _ => ?_) ?_); (focus kernel_rfl))
      | (with_reducible refine RUNL.run ?_)
      | ((with_reducible refine AR.ok ?_ ?_); exact ⟨by first | omega | (dsimp only; omega), by first | omega | (dsimp only; omega)⟩)
      | (with_reducible refine AR.wr ?_)
      | ((with_reducible intro w3 e3); try have z3 := cutLe e3)
      | ((with_reducible intro h3); have h4 := Nat.le_of_lt h3; clear h4)))
    refine callF (g := 14) (by kernel_rfl) ⟨_, heldClaS_c _ _ _ _ _ moGc.row.1 (by omega) (by rw [nxEs_eq]; have := yoG.1; omega), fun w15 e15 => ?_⟩
    have sz15 := e15.size
    replace oA := oA.e0 e15
    replace oW := oW.e0 e15
    replace xoX := xoX.e0 e15
    replace xoG := xoG.e0 e15
    replace oB := oB.e0 e15
    replace oWc := oWc.e0 e15
    replace moGc := moGc.e0 e15
    repeat (any_goals (
      conv => whnf
      first
      | ((with_reducible refine BIF.s (fun h => absurd h ?_) (fun _ => ?_)); focus (first | (simp; done) | (simp; omega)))
      | ((with_reducible refine BIF.s (fun _ => ?_) (fun h => absurd h ?_)); rotate_left; focus (first | (simp; done) | (simp; omega)))
      | ((with_reducible refine BIF.dec (fun h => absurd h ?_) (fun _ => ?_)); (focus (rw [nxEs_eq]; omega)))
      | ((with_reducible refine BIF.bne (fun h => absurd rfl h) (fun _ => ?_)))
      | ((with_reducible refine BIF.dec ?_ ?_) <;> intro _)
      | ((with_reducible refine BIF.s ?_ ?_) <;> intro _)
      | (with_reducible refine NEXTK.normal ?_)
      | (with_reducible refine NEXTK.ret ?_)
      | (with_reducible refine NEXTK.exit ?_)
      | (with_reducible refine SEQ.plain ?_)
      | (with_reducible refine hK _ _ ?_)
      | ((with_reducible refine RUNL.agg (fun _ => ?_) ?_); (focus kernel_rfl))
      | (with_reducible refine RUNL.run ?_)
      | ((with_reducible refine AR.ok ?_ ?_); exact ⟨by first | omega | (dsimp only; omega), by first | omega | (dsimp only; omega)⟩)
      | (with_reducible refine AR.wr ?_)
      | ((with_reducible intro w3 e3); try have z3 := cutLe e3)
      | ((with_reducible intro h3); have h4 := Nat.le_of_lt h3; clear h4)))
    refine callY (g := 7) (by kernel_rfl) ⟨_, fun x => toEntryS_c _ _ _ ts _ (hr0.ext x (mAddr_Non _)) (fun t ht => (hs0 t ht).ext x (mAddr_Non _)) hn0 (by omega) hzs, fun r w16 e16 hoC => ?_⟩
    obtain ⟨toC, uoC, oC⟩ := hoC
    have sz16 := e16.size
    replace oA := oA.e0 e16
    replace oW := oW.e0 e16
    replace xoX := xoX.e0 e16
    replace xoG := xoG.e0 e16
    replace oB := oB.e0 e16
    replace oWc := oWc.e0 e16
    replace moGc := moGc.e0 e16
    obtain ⟨aoC, coC, rfl, qoC, poC⟩ := oC.top.rowx
    have loC : toC.length = n0 := by have := congrArg List.length uoC; simpa [hn0] using this
    have boC := fun b hb => oC.blk b hb
    have zoC : ∀ t ∈ toC, t.1.fSeen.length ≤ 1048576 := fun t ht => lenT_eq hzs uoC t ht
    repeat (any_goals (
      conv => whnf
      first
      | ((with_reducible refine BIF.s (fun h => absurd h ?_) (fun _ => ?_)); focus (first | (simp; done) | (simp; omega)))
      | ((with_reducible refine BIF.s (fun _ => ?_) (fun h => absurd h ?_)); rotate_left; focus (first | (simp; done) | (simp; omega)))
      | ((with_reducible refine BIF.dec (fun h => absurd h ?_) (fun _ => ?_)); (focus (rw [nxEs_eq]; omega)))
      | ((with_reducible refine BIF.bne (fun h => absurd rfl h) (fun _ => ?_)))
      | ((with_reducible refine BIF.dec ?_ ?_) <;> intro _)
      | ((with_reducible refine BIF.s ?_ ?_) <;> intro _)
      | (with_reducible refine NEXTK.normal ?_)
      | (with_reducible refine NEXTK.ret ?_)
      | (with_reducible refine NEXTK.exit ?_)
      | (with_reducible refine SEQ.plain ?_)
      | (with_reducible refine hK _ _ ?_)
      | ((with_reducible refine RUNL.agg (fun _ => ?_) ?_); (focus kernel_rfl))
      | (with_reducible refine RUNL.run ?_)
      | ((with_reducible refine AR.ok ?_ ?_); exact ⟨by first | omega | (dsimp only; omega), by first | omega | (dsimp only; omega)⟩)
      | (with_reducible refine AR.wr ?_)
      | ((with_reducible intro w3 e3); try have z3 := cutLe e3)
      | ((with_reducible intro h3); have h4 := Nat.le_of_lt h3; clear h4)))
    refine callY (g := 8) (by kernel_rfl) ⟨_, fun x => MergeTwo_c _ _ _ toC _ _ _ (TabIs.e0 hT x) oC.top.row.1 oC.seen rfl (by omega) (by omega) (fun t ht => by have := zoC t ht; omega), fun r w17 e17 hoH => ?_⟩
    obtain ⟨soH, toH, koH, rfl, voH, oH, oHc⟩ := hoH
    rw [uoC] at voH oHc ⊢
    have sz17 := e17.size
    replace oA := oA.e0 e17
    replace oW := oW.e0 e17
    replace xoX := xoX.e0 e17
    replace xoG := xoG.e0 e17
    replace oB := oB.e0 e17
    replace oC := oC.e0 e17
    replace oWc := oWc.e0 e17
    replace moGc := moGc.e0 e17
    obtain ⟨aoH, coH, rfl, qoH, poH⟩ := oH.top.rowx
    have boH := fun b hb => oH.blk b hb
    have yoH := bndMergeTwo voH
    obtain ⟨aoHc, doHc, rfl, qoHc, poHc⟩ := oHc.rowx
    have boHc := fun b hb => oHc.block (k := b) hb
    repeat (any_goals (
      conv => whnf
      first
      | ((with_reducible refine BIF.s (fun h => absurd h ?_) (fun _ => ?_)); focus (first | (simp; done) | (simp; omega)))
      | ((with_reducible refine BIF.s (fun _ => ?_) (fun h => absurd h ?_)); rotate_left; focus (first | (simp; done) | (simp; omega)))
      | ((with_reducible refine BIF.dec (fun h => absurd h ?_) (fun _ => ?_)); (focus (rw [nxEs_eq]; omega)))
      | ((with_reducible refine BIF.bne (fun h => absurd rfl h) (fun _ => ?_)))
      | ((with_reducible refine BIF.dec ?_ ?_) <;> intro _)
      | ((with_reducible refine BIF.s ?_ ?_) <;> intro _)
      | (with_reducible refine NEXTK.normal ?_)
      | (with_reducible refine NEXTK.ret ?_)
      | (with_reducible refine NEXTK.exit ?_)
      | (with_reducible refine SEQ.plain ?_)
      | (with_reducible refine hK _ _ ?_)
      | ((with_reducible refine RUNL.agg (fun _ => ?_) ?_); (focus kernel_rfl))
      | (with_reducible refine RUNL.run ?_)
      | ((with_reducible refine AR.ok ?_ ?_); exact ⟨by first | omega | (dsimp only; omega), by first | omega | (dsimp only; omega)⟩)
      | (with_reducible refine AR.wr ?_)
      | ((with_reducible intro w3 e3); try have z3 := cutLe e3)
      | ((with_reducible intro h3); have h4 := Nat.le_of_lt h3; clear h4)))
    refine callF (g := 9) (by kernel_rfl) ⟨_, eqEntryS_c _ _ _ _ _ _ toH toW _ oH.top.row.1 oH.seen oW.top.row.1 oW.seen rfl rfl (by omega) (by omega) (fun t ht => by have := yoH.2.1 t ht; omega) (fun t ht => by have := yoW.2.1 t ht; omega), fun w18 e18 => ?_⟩
    rw [decide_eq_true (show toH.map (·.1) = toW.map (·.1) by rw [voH, voW])]
    have sz18 := e18.size
    replace oA := oA.e0 e18
    replace oW := oW.e0 e18
    replace xoX := xoX.e0 e18
    replace xoG := xoG.e0 e18
    replace oB := oB.e0 e18
    replace oC := oC.e0 e18
    replace oH := oH.e0 e18
    replace oWc := oWc.e0 e18
    replace moGc := moGc.e0 e18
    replace oHc := oHc.e0 e18
    repeat (any_goals (
      conv => whnf
      first
      | ((with_reducible refine BIF.s (fun h => absurd h ?_) (fun _ => ?_)); focus (first | (simp; done) | (simp; omega)))
      | ((with_reducible refine BIF.s (fun _ => ?_) (fun h => absurd h ?_)); rotate_left; focus (first | (simp; done) | (simp; omega)))
      | ((with_reducible refine BIF.dec (fun h => absurd h ?_) (fun _ => ?_)); (focus (rw [nxEs_eq]; omega)))
      | ((with_reducible refine BIF.bne (fun h => absurd rfl h) (fun _ => ?_)))
      | ((with_reducible refine BIF.dec ?_ ?_) <;> intro _)
      | ((with_reducible refine BIF.s ?_ ?_) <;> intro _)
      | (with_reducible refine NEXTK.normal ?_)
      | (with_reducible refine NEXTK.ret ?_)
      | (with_reducible refine NEXTK.exit ?_)
      | (with_reducible refine SEQ.plain ?_)
      | (with_reducible refine hK _ _ ?_)
      | ((with_reducible refine RUNL.agg (fun _ => ?_) ?_); (focus kernel_rfl))
      | (with_reducible refine RUNL.run ?_)
      | ((with_reducible refine AR.ok ?_ ?_); exact ⟨by first | omega | (dsimp only; omega), by first | omega | (dsimp only; omega)⟩)
      | (with_reducible refine AR.wr ?_)
      | ((with_reducible intro w3 e3); try have z3 := cutLe e3)
      | ((with_reducible intro h3); have h4 := Nat.le_of_lt h3; clear h4)))
    refine callF (g := 10) (by kernel_rfl) ⟨_, eqClaS_c _ _ _ _ _ _ _ _ _ oHc.row.1 oWc.row.1 rfl rfl (by omega) (by omega), fun w19 e19 => ?_⟩
    have sz19 := e19.size
    replace oA := oA.e0 e19
    replace oW := oW.e0 e19
    replace xoX := xoX.e0 e19
    replace xoG := xoG.e0 e19
    replace oB := oB.e0 e19
    replace oC := oC.e0 e19
    replace oH := oH.e0 e19
    replace oWc := oWc.e0 e19
    replace moGc := moGc.e0 e19
    replace oHc := oHc.e0 e19
    repeat (any_goals (
      conv => whnf
      first
      | ((with_reducible refine BIF.s (fun h => absurd h ?_) (fun _ => ?_)); focus (first | (simp; done) | (simp; omega)))
      | ((with_reducible refine BIF.s (fun _ => ?_) (fun h => absurd h ?_)); rotate_left; focus (first | (simp; done) | (simp; omega)))
      | ((with_reducible refine BIF.dec (fun h => absurd h ?_) (fun _ => ?_)); (focus (rw [nxEs_eq]; omega)))
      | ((with_reducible refine BIF.bne (fun h => absurd rfl h) (fun _ => ?_)))
      | ((with_reducible refine BIF.dec ?_ ?_) <;> intro _)
      | ((with_reducible refine BIF.s ?_ ?_) <;> intro _)
      | (with_reducible refine NEXTK.normal ?_)
      | (with_reducible refine NEXTK.ret ?_)
      | (with_reducible refine NEXTK.exit ?_)
      | (with_reducible refine SEQ.plain ?_)
      | (with_reducible refine hK _ _ ?_)
      | ((with_reducible refine RUNL.agg (fun _ => ?_) ?_); (focus kernel_rfl))
      | (with_reducible refine RUNL.run ?_)
      | ((with_reducible refine AR.ok ?_ ?_); exact ⟨by first | omega | (dsimp only; omega), by first | omega | (dsimp only; omega)⟩)
      | (with_reducible refine AR.wr ?_)
      | ((with_reducible intro w3 e3); try have z3 := cutLe e3)
      | ((with_reducible intro h3); have h4 := Nat.le_of_lt h3; clear h4)))
    refine callF (g := 13) (by kernel_rfl) ⟨_, heldEntryS_c _ _ _ moG (toG.map (·.1)) 1 _ xoG.top.row.1 xoG.seen foG (by rw [← List.length_map (f := (·.2)), goG, List.length_map]) (by omega) (by rw [lens_mk foG]; have := yoG.1; omega) (by omega), fun w20 e20 => ?_⟩
    have sz20 := e20.size
    replace oA := oA.e0 e20
    replace oW := oW.e0 e20
    replace xoX := xoX.e0 e20
    replace xoG := xoG.e0 e20
    replace oB := oB.e0 e20
    replace oC := oC.e0 e20
    replace oH := oH.e0 e20
    replace oWc := oWc.e0 e20
    replace moGc := moGc.e0 e20
    replace oHc := oHc.e0 e20
    repeat (any_goals (
      conv => whnf
      first
      | ((with_reducible refine BIF.s (fun h => absurd h ?_) (fun _ => ?_)); focus (first | (simp; done) | (simp; omega)))
      | ((with_reducible refine BIF.s (fun _ => ?_) (fun h => absurd h ?_)); rotate_left; focus (first | (simp; done) | (simp; omega)))
      | ((with_reducible refine BIF.dec (fun h => absurd h ?_) (fun _ => ?_)); (focus (rw [nxEs_eq]; omega)))
      | ((with_reducible refine BIF.bne (fun h => absurd rfl h) (fun _ => ?_)))
      | ((with_reducible refine BIF.dec ?_ ?_) <;> intro _)
      | ((with_reducible refine BIF.s ?_ ?_) <;> intro _)
      | (with_reducible refine NEXTK.normal ?_)
      | (with_reducible refine NEXTK.ret ?_)
      | (with_reducible refine NEXTK.exit ?_)
      | (with_reducible refine SEQ.plain ?_)
      | (with_reducible refine hK _ _ ?_)
      | ((with_reducible refine RUNL.agg (fun _ => ?_) ?_); (focus kernel_rfl))
      | (with_reducible refine RUNL.run ?_)
      | ((with_reducible refine AR.ok ?_ ?_); exact ⟨by first | omega | (dsimp only; omega), by first | omega | (dsimp only; omega)⟩)
      | (with_reducible refine AR.wr ?_)
      | ((with_reducible intro w3 e3); try have z3 := cutLe e3)
      | ((with_reducible intro h3); have h4 := Nat.le_of_lt h3; clear h4)))
    refine callF (g := 14) (by kernel_rfl) ⟨_, heldClaS_c _ _ _ _ _ moGc.row.1 (by omega) (by rw [nxEs_eq]; have := yoG.1; omega), fun w21 e21 => ?_⟩
    have sz21 := e21.size
    replace oA := oA.e0 e21
    replace oW := oW.e0 e21
    replace xoX := xoX.e0 e21
    replace xoG := xoG.e0 e21
    replace oB := oB.e0 e21
    replace oC := oC.e0 e21
    replace oH := oH.e0 e21
    replace oWc := oWc.e0 e21
    replace moGc := moGc.e0 e21
    replace oHc := oHc.e0 e21
    repeat (any_goals (
      conv => whnf
      first
      | ((with_reducible refine BIF.s (fun h => absurd h ?_) (fun _ => ?_)); focus (first | (simp; done) | (simp; omega)))
      | ((with_reducible refine BIF.s (fun _ => ?_) (fun h => absurd h ?_)); rotate_left; focus (first | (simp; done) | (simp; omega)))
      | ((with_reducible refine BIF.dec (fun h => absurd h ?_) (fun _ => ?_)); (focus (rw [nxEs_eq]; omega)))
      | ((with_reducible refine BIF.bne (fun h => absurd rfl h) (fun _ => ?_)))
      | ((with_reducible refine BIF.dec ?_ ?_) <;> intro _)
      | ((with_reducible refine BIF.s ?_ ?_) <;> intro _)
      | (with_reducible refine NEXTK.normal ?_)
      | (with_reducible refine NEXTK.ret ?_)
      | (with_reducible refine NEXTK.exit ?_)
      | (with_reducible refine SEQ.plain ?_)
      | (with_reducible refine hK _ _ ?_)
      | ((with_reducible refine RUNL.agg (fun _ => ?_) ?_); (focus kernel_rfl))
      | (with_reducible refine RUNL.run ?_)
      | ((with_reducible refine AR.ok ?_ ?_); exact ⟨by first | omega | (dsimp only; omega), by first | omega | (dsimp only; omega)⟩)
      | (with_reducible refine AR.wr ?_)
      | ((with_reducible intro w3 e3); try have z3 := cutLe e3)
      | ((with_reducible intro h3); have h4 := Nat.le_of_lt h3; clear h4)))
    intro hx
    exact ⟨rfl, hx⟩
 theorem FnExactMergeTwo_door (os : Os) (args : Array Value) : laidMetH Tryz.prog Rows.fnExactMergeTwoRow.laid ((World.doorLaid Tryz.prog 400 os).forCall (fun _ _ => 0) ⟨#[], args, []⟩).memory :=
  laidMetH_of_parts3 (fuel := 8) (laidMet_of_run' 8 (by kernel_rfl) (by kernel_rfl)) (by kernel_rfl) (by kernel_rfl)
theorem FnExactMergeTwo_tab {W : World} (h : laidMetH Tryz.prog Rows.fnExactMergeTwoRow.laid W) : Tab W := by
  rw [MakeChecks.laidMetH_plain _ _ _ (by kernel_rfl)] at h
  obtain ⟨ps, ⟨g0, t0, cs0, f0, p0, q0, hg0, ht0, hv0, hd0, ⟨g1, t1, cs1, f1, p1, q1, hg1, ht1, hv1, hd1, ⟨g2, t2, cs2, f2, p2, q2, hg2, ht2, hv2, hd2, _, _⟩, _⟩, _⟩, _, _⟩ := h
  obtain rfl := Option.some.inj ((show Tryz.prog.globalNamed "internal/strconv.uint64pow10" = some 0 by kernel_rfl).symm.trans hg2)
  obtain rfl := Option.some.inj ((show (Tryz.prog.globals[0]?).map (·.type) = some 134 by kernel_rfl).symm.trans ht2)
  unfold Tab Lib.TabIs
  rw [hv2]
  obtain ⟨cs⟩ := cs2
  have e := Lib.cells_of_tab (n := 20) (k := .u64) (zs := Lib.pow10Tab) Tryz.underlying134 Tryz.underlying72 (by kernel_rfl) (by kernel_rfl) hd2
  exact congrArg some (congrArg Array.mk e)
set_option maxRecDepth 100000 in
theorem FnExactMergeTwo_lifted (os : Os) (started : os.Started) (H : Type) (enc : TypeId × Value → H) :
    ReturnsInHanded {} Tryz.checked os 3 .any (fun w args => (Rows.fnExactMergeTwoSpec.pre enc Tryz.prog Tryz.f3 [] false w args ∧ laidMetH Tryz.prog Rows.fnExactMergeTwoRow.laid w) ∧ sizedMet enc Tryz.prog Tryz.f3 (OpenSpec.ofChange Rows.fnExactMergeTwoSpec) false w args)
      (Rows.fnExactMergeTwoSpec.post enc Tryz.prog Tryz.f3 false true false false) := by
  refine returnsInHanded_of_change_and (C := Tryz.checked) (X := fun w _ => laidMetH Tryz.prog Rows.fnExactMergeTwoRow.laid w) (fun _ _ _ hh h => h.of_heap hh) own started (by kernel_rfl) Tryz.func3
    (ChangeSpec.witness_shaped (enc := enc) (C := Tryz.checked) (os := os) (X := fun w _ => laidMetH Tryz.prog Rows.fnExactMergeTwoRow.laid w) false (World.doorLaid Tryz.prog 400 os) #[.slice none 0 0, .int .i64 0, .int .i64 0] 8 rfl (World.shaped_of_RefB (by kernel_rfl) (by kernel_rfl)) (by kernel_rfl) (by kernel_rfl) (by kernel_rfl) (FnExactMergeTwo_door os _)) ?_
  intro W base args ds gs before hval0 hW _ _ hL _
  have hval : ∀ (j : Nat) t v, Tryz.f3.params[j]? = some t → args[j]? = some v → Value.okWide Tryz.prog W .any base t v := hval0
  have hW' := hW
  obtain ⟨p, q, hA0, hV, rfl, hfz, hnd⟩ := hW
  have hA : DataW.TrodAll enc Tryz.prog W 0 (fun _ => true) true Tryz.f3.params.toList args.toList ds p := hA0
  rw [Tryz.params3] at hA hval
  obtain ⟨v0, vs0, d0, ds0, p0, q0, hargs, rfl, rfl, h0, r0⟩ := trodAll_cons hA
  obtain ⟨v1, vs1, d1, ds1, p1, q1, rfl, rfl, rfl, h1, r1⟩ := trodAll_cons r0
  obtain ⟨v2, vs2, d2, ds2, p2, q2, rfl, rfl, rfl, h2, r2⟩ := trodAll_cons r1
  obtain ⟨rfl, rfl, rfl⟩ := trodAll_nil r2
  obtain rfl : args = #[v0, v1, v2] := by cases args; simp_all
  obtain ⟨rfl, rfl⟩ := trodVars_none hV
  obtain ⟨a0, n0, c0, rfl⟩ := okWide_slice Tryz.underlying22 (hval 0 22 v0 rfl rfl)
  have k0 := h0
  have lt0 : ∀ x ∈ p0, x.block < W.heap.size := by obtain ⟨m, hm⟩ := k0; exact DataW.trod_lt m _ _ _ hm
  obtain ⟨xs0, w0, l0, b0, g0⟩ := open_rows Tryz.underlying22 (by kernel_rfl) cellsEnt h0
  obtain ⟨a1, rfl, rfl, rfl, w1⟩ := open_int Tryz.underlying3 (hval 1 3 v1 rfl rfl) h1
  obtain ⟨a2, rfl, rfl, rfl, w2⟩ := open_int Tryz.underlying3 (hval 2 3 v2 rfl rfl) h2
  clear hA0 hval0
  refine (FnExactMergeTwo_w W (FnExactMergeTwo_tab hL) a0 n0 c0 xs0 w0 l0 b0 g0 a1 (wf64 w1) a2 (wf64 w2)).mono fun e W' ⟨he, x⟩ => ?_
  subst he
  have bel := x.toBelow
  exact ⟨_, rfl, _, _, _, [], _, [], hW', trodAll_mk1 (shut_bool Tryz.underlying4 _), (trodAll_cons_mk (Below.trod laidOut (by kernel_rfl) (of_decide_eq_true (by kernel_rfl)) k0 bel lt0) (trodAll_cons_mk (shut_int Tryz.underlying3 w1) (trodAll_cons_mk (shut_int Tryz.underlying3 w2) trodAll_mk0))), rfl, bel.frame _, fun h => by cases h⟩
theorem FnExactMergeTwo_row : Rows.fnExactMergeTwoRow.holds Tryz.pinned (OpenSpec.ofChange Rows.fnExactMergeTwoSpec) :=
  OpenClaim.holds_of_wide 3 Tryz.f3 rfl rfl rfl rfl rfl rfl rfl ⟨rfl, rfl, rfl, rfl, rfl⟩ rfl rfl rfl rfl rfl (by kernel_rfl) Tryz.func3 (by kernel_rfl)
    (of_decide_eq_true (by kernel_rfl)) (by unfold Func.isWrapper; first | (rw [if_pos (by decide +kernel)]; kernel_rfl) | (rw [if_neg (by decide +kernel)]; exact ⟨rfl, rfl⟩))
    (fun os started H enc _ => FnExactMergeTwo_lifted os started H enc)
theorem FnExactMergeTwo_holds : Rows.FnExactMergeTwoCardSaid :=
  Claim7.holds_tied_plain_at .later [] [.data, .data, .data] true (true, "d850885bc564c8e58991c92a43ec99a182b9ca086c95713a7e06ef9660f11b1d") false
    FnExactMergeTwo_row (fun _ h => by cases h) (by kernel_rfl) (fun _ h => by cases h) fnExactMergeTwo_row_tie rfl ⟨rfl, rfl⟩ (by kernel_rfl) rfl
    (fun f fn hf hfn => by
      obtain rfl : f = 3 := Option.some.inj ((show Tryz.prog.funcNamed Rows.fnExactMergeTwoRow.func = some 3 by kernel_rfl).symm.trans hf) |>.symm
      obtain rfl : fn = Tryz.f3 := (Option.some.inj (Tryz.func3.symm.trans hfn)).symm
      exact ⟨by kernel_rfl, fun j t ht => by
        rw [Tryz.params3] at ht
        have hm : t ∈ [22, 3, 3] := by simpa using Array.mem_of_getElem? ht
        have hall : ([22, 3, 3].all fun u => !Tryz.prog.wantsStandIn u) = true := by kernel_rfl
        exact (show Tryz.prog.wantsStandIn t = false by simpa using List.all_eq_true.1 hall t hm)⟩)
    (by kernel_rfl)
end Go.Proofs.YtpddilkonkkppaaGreatDoor

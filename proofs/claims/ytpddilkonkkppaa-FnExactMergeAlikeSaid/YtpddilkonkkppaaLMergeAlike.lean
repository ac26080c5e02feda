/- FnExactMergeAlike returns true for every argument and leaves its arguments as they were. -/
import Derived.Test.YtpddilkonkkppaaRows
import Derived.Test.YtpddilkonkkppaaTalk2
namespace Go.Proofs.Ytpddilkonkkppaa
open Go Go.X Go.Proofs Go.ChangeShapes Go.WideShapes Go.ChangeAt Go.RowKit
open Go.ChangeMaps (open_string shut_string)
set_option maxHeartbeats 1000000
set_option maxRecDepth 20000
set_option linter.unusedVariables false
set_option linter.unusedSimpArgs false
set_option maxHeartbeats 4000000 in
theorem FnExactMergeAlike_w (w : World) (a0 : Option Addr) (n0 c0 : Nat) (ts : List Tri) (hr0 : Row w a0 6 (ts.map encT)) (hn0 : ts.length = n0) (hm0 : n0 ≤ 9223372036854775807) (hg0 : ∀ x ∈ ts, goodT w x) :
    Calls Try.prog 3 #[.slice a0 n0 c0] w fun e w' => e = .returned (.bool true) ∧ E0 w w' := by
  refine enterK Non 117 Try.func3 rfl rfl rfl fun K hK => ?_
  have hs0 : SeenAt w ts := fun t ht => (hg0 t ht).1
  repeat (any_goals (
    conv => whnf
    first
    | ((with_reducible refine BIF.dec ?_ ?_) <;> intro _)
    | ((with_reducible refine BIF.s ?_ ?_) <;> intro _)
    | (with_reducible refine NEXTK.normal ?_)
    | (with_reducible refine NEXTK.ret ?_)
    | (with_reducible refine NEXTK.exit ?_)
    | (with_reducible refine SEQ.plain ?_)
    | (with_reducible refine hK _ _ ?_)
    | ((with_reducible refine RUNL.agg (fun _ => ?_) ?_); (focus kernel_rfl))
    | (with_reducible refine RUNL.run ?_)
    | ((with_reducible refine AR.ok ?_ ?_); exact ⟨by first | omega | (dsimp only; omega), by first | omega | (dsimp only; omega)⟩)
    | (with_reducible refine AR.wr ?_)
    | ((with_reducible intro w3 e3); try have z3 := cutLe e3)
    | ((with_reducible intro h3); have h4 := Nat.le_of_lt h3; clear h4)))
  conv => whnf
  refine callY (g := 4) (by kernel_rfl) ⟨_, fun x => szEntryS_c _ _ _ ts _ _ (hr0.ext x (mAddr_Non _)) hn0 (by omega) (fun t ht => (hg0 t ht).2) (by omega), fun r wz ez hz => ?_⟩
  obtain ⟨vz, rfl, hvz⟩ := hz
  have zz := cutLe ez
  by_cases hneg : vz < 0
  · repeat (any_goals (
      conv => whnf
      first
      | ((with_reducible refine BIF.dec ?_ ?_) <;> intro _)
      | ((exfalso; omega))
      | ((with_reducible refine BIF.dec ?_ ?_) <;> intro _)
      | ((with_reducible refine BIF.s ?_ ?_) <;> intro _)
      | (with_reducible refine NEXTK.normal ?_)
      | (with_reducible refine NEXTK.ret ?_)
      | (with_reducible refine NEXTK.exit ?_)
      | (with_reducible refine SEQ.plain ?_)
      | (with_reducible refine hK _ _ ?_)
      | ((with_reducible refine RUNL.agg (fun _ => ?_) ?_); (focus kernel_rfl))
      | (with_reducible refine RUNL.run ?_)
      | ((with_reducible refine AR.ok ?_ ?_); exact ⟨by first | omega | (dsimp only; omega), by first | omega | (dsimp only; omega)⟩)
      | (with_reducible refine AR.wr ?_)
      | ((with_reducible intro w3 e3); try have z3 := cutLe e3)
      | ((with_reducible intro h3); have h4 := Nat.le_of_lt h3; clear h4)))
    intro hx
    exact ⟨rfl, hx⟩
  · have hbig : n0 ≤ 1048576 := by omega
    have hln : lens ts ≤ 1048576 := by omega
    have hzs : ∀ t ∈ ts, t.1.fSeen.length ≤ 1048576 := fun t ht => by have := lens_mem ht; omega
    have hsz : sizT ts := fun t ht => ⟨by have := hzs t ht; omega, by have := (hg0 t ht).2.2.1; unfold maxLen at this; omega, by have := (hg0 t ht).2.2.2.1; unfold maxLen at this; omega⟩
    repeat (any_goals (
      conv => whnf
      first
      | ((with_reducible refine BIF.dec ?_ ?_) <;> intro _)
      | ((exfalso; omega))
      | ((with_reducible refine BIF.dec ?_ ?_) <;> intro _)
      | ((with_reducible refine BIF.s ?_ ?_) <;> intro _)
      | (with_reducible refine NEXTK.normal ?_)
      | (with_reducible refine NEXTK.ret ?_)
      | (with_reducible refine NEXTK.exit ?_)
      | (with_reducible refine SEQ.plain ?_)
      | (with_reducible refine hK _ _ ?_)
      | ((with_reducible refine RUNL.agg (fun _ => ?_) ?_); (focus kernel_rfl))
      | (with_reducible refine RUNL.run ?_)
      | ((with_reducible refine AR.ok ?_ ?_); exact ⟨by first | omega | (dsimp only; omega), by first | omega | (dsimp only; omega)⟩)
      | (with_reducible refine AR.wr ?_)
      | ((with_reducible intro w3 e3); try have z3 := cutLe e3)
      | ((with_reducible intro h3); have h4 := Nat.le_of_lt h3; clear h4)))
    refine callY (g := 6) (by kernel_rfl) ⟨_, fun x => toEntryS_c _ _ _ ts _ (hr0.ext x (mAddr_Non _)) (fun t ht => (hs0 t ht).ext x (mAddr_Non _)) hn0 (by omega) hzs, fun r w1 e1 hoA => ?_⟩
    obtain ⟨toA, uoA, oA⟩ := hoA
    have sz1 := e1.size
    obtain ⟨aoA, coA, rfl, qoA, poA⟩ := oA.top.rowx
    have loA : toA.length = n0 := by have := congrArg List.length uoA; simpa [hn0] using this
    have boA := fun b hb => oA.blk b hb
    have zoA : ∀ t ∈ toA, t.1.fSeen.length ≤ 1048576 := fun t ht => lenT_eq hzs uoA t ht
    repeat (any_goals (
      conv => whnf
      first
      | ((with_reducible refine BIF.s (fun h => absurd h ?_) (fun _ => ?_)); focus (first | (simp; done) | (simp; omega)))
      | ((with_reducible refine BIF.s (fun _ => ?_) (fun h => absurd h ?_)); rotate_left; focus (first | (simp; done) | (simp; omega)))
      | ((with_reducible refine BIF.dec (fun h => absurd h ?_) (fun _ => ?_)); (focus (rw [nxEs_eq]; omega)))
      | ((with_reducible refine BIF.bne (fun h => absurd rfl h) (fun _ => ?_)))
      | ((with_reducible refine BIF.dec ?_ ?_) <;> intro _)
      | ((with_reducible refine BIF.s ?_ ?_) <;> intro _)
      | (with_reducible refine NEXTK.normal ?_)
      | (with_reducible refine NEXTK.ret ?_)
      | (with_reducible refine NEXTK.exit ?_)
      | (with_reducible refine SEQ.plain ?_)
      | (with_reducible refine hK _ _ ?_)
      | ((with_reducible refine RUNL.agg (fun _ => ?_) ?_); (focus kernel_rfl))
      | (with_reducible refine RUNL.run ?_)
      | ((with_reducible refine AR.ok ?_ ?_); exact ⟨by first | omega | (dsimp only; omega), by first | omega | (dsimp only; omega)⟩)
      | (with_reducible refine AR.wr ?_)
      | ((with_reducible intro w3 e3); try have z3 := cutLe e3)
      | ((with_reducible intro h3); have h4 := Nat.le_of_lt h3; clear h4)))
    refine callY (g := 5) (by kernel_rfl) ⟨_, fun x => MergeAlikeS_c _ _ _ toA _ oA.top.row.1 oA.seen rfl (by omega) (sizT_eq hsz uoA), fun r w2 e2 hoW => ?_⟩
    obtain ⟨soW, toW, rfl, voW, oW⟩ := hoW
    rw [uoA] at voW ⊢
    have sz2 := e2.size
    replace oA := oA.e0 e2
    obtain ⟨aoW, coW, rfl, qoW, poW⟩ := oW.top.rowx
    have boW := fun b hb => oW.blk b hb
    have yoW := bndMergeAlike voW
    repeat (any_goals (
      conv => whnf
      first
      | ((with_reducible refine BIF.s (fun h => absurd h ?_) (fun _ => ?_)); focus (first | (simp; done) | (simp; omega)))
      | ((with_reducible refine BIF.s (fun _ => ?_) (fun h => absurd h ?_)); rotate_left; focus (first | (simp; done) | (simp; omega)))
      | ((with_reducible refine BIF.dec (fun h => absurd h ?_) (fun _ => ?_)); (focus (rw [nxEs_eq]; omega)))
      | ((with_reducible refine BIF.bne (fun h => absurd rfl h) (fun _ => ?_)))
      | ((with_reducible refine BIF.dec ?_ ?_) <;> intro _)
      | ((with_reducible refine BIF.s ?_ ?_) <;> intro _)
      | (with_reducible refine NEXTK.normal ?_)
      | (with_reducible refine NEXTK.ret ?_)
      | (with_reducible refine NEXTK.exit ?_)
      | (with_reducible refine SEQ.plain ?_)
      | (with_reducible refine hK _ _ ?_)
      | ((with_reducible refine RUNL.agg (fun _ => ?_) ?_); (focus kernel_rfl))
      | (with_reducible refine RUNL.run ?_)
      | ((with_reducible refine AR.ok ?_ ?_); exact ⟨by first | omega | (dsimp only; omega), by first | omega | (dsimp only; omega)⟩)
      | (with_reducible refine AR.wr ?_)
      | ((with_reducible intro w3 e3); try have z3 := cutLe e3)
      | ((with_reducible intro h3); have h4 := Nat.le_of_lt h3; clear h4)))
    refine callY (g := 6) (by kernel_rfl) ⟨_, fun x => toEntryS_c _ _ _ ts _ (hr0.ext x (mAddr_Non _)) (fun t ht => (hs0 t ht).ext x (mAddr_Non _)) hn0 (by omega) hzs, fun r w3 e3 hoX => ?_⟩
    obtain ⟨toX, uoX, oX⟩ := hoX
    have sz3 := e3.size
    replace oA := oA.e0 e3
    replace oW := oW.e0 e3
    obtain ⟨aoX, coX, rfl, qoX, poX⟩ := oX.top.rowx
    have loX : toX.length = n0 := by have := congrArg List.length uoX; simpa [hn0] using this
    have boX := fun b hb => oX.blk b hb
    have zoX : ∀ t ∈ toX, t.1.fSeen.length ≤ 1048576 := fun t ht => lenT_eq hzs uoX t ht
    repeat (any_goals (
      conv => whnf
      first
      | ((with_reducible refine BIF.s (fun h => absurd h ?_) (fun _ => ?_)); focus (first | (simp; done) | (simp; omega)))
      | ((with_reducible refine BIF.s (fun _ => ?_) (fun h => absurd h ?_)); rotate_left; focus (first | (simp; done) | (simp; omega)))
      | ((with_reducible refine BIF.dec (fun h => absurd h ?_) (fun _ => ?_)); (focus (rw [nxEs_eq]; omega)))
      | ((with_reducible refine BIF.bne (fun h => absurd rfl h) (fun _ => ?_)))
      | ((with_reducible refine BIF.dec ?_ ?_) <;> intro _)
      | ((with_reducible refine BIF.s ?_ ?_) <;> intro _)
      | (with_reducible refine NEXTK.normal ?_)
      | (with_reducible refine NEXTK.ret ?_)
      | (with_reducible refine NEXTK.exit ?_)
      | (with_reducible refine SEQ.plain ?_)
      | (with_reducible refine hK _ _ ?_)
      | ((with_reducible refine RUNL.agg (fun _ => ?_) ?_); (focus kernel_rfl))
      | (with_reducible refine RUNL.run ?_)
      | ((with_reducible refine AR.ok ?_ ?_); exact ⟨by first | omega | (dsimp only; omega), by first | omega | (dsimp only; omega)⟩)
      | (with_reducible refine AR.wr ?_)
      | ((with_reducible intro w3 e3); try have z3 := cutLe e3)
      | ((with_reducible intro h3); have h4 := Nat.le_of_lt h3; clear h4)))
    refine callY (g := 7) (by kernel_rfl) ⟨_, fun x => MergeAlike_c _ _ _ toX _ oX.top.row.1 oX.seen rfl (by omega) (by omega) (fun t ht => by have := zoX t ht; omega), fun r w4 e4 hoG => ?_⟩
    obtain ⟨soG, toG, rfl, voG, oG⟩ := hoG
    rw [uoX] at voG ⊢
    have sz4 := e4.size
    replace oA := oA.e0 e4
    replace oW := oW.e0 e4
    replace oX := oX.e0 e4
    obtain ⟨aoG, coG, rfl, qoG, poG⟩ := oG.top.rowx
    have boG := fun b hb => oG.blk b hb
    have yoG := bndMergeAlike voG
    repeat (any_goals (
      conv => whnf
      first
      | ((with_reducible refine BIF.s (fun h => absurd h ?_) (fun _ => ?_)); focus (first | (simp; done) | (simp; omega)))
      | ((with_reducible refine BIF.s (fun _ => ?_) (fun h => absurd h ?_)); rotate_left; focus (first | (simp; done) | (simp; omega)))
      | ((with_reducible refine BIF.dec (fun h => absurd h ?_) (fun _ => ?_)); (focus (rw [nxEs_eq]; omega)))
      | ((with_reducible refine BIF.bne (fun h => absurd rfl h) (fun _ => ?_)))
      | ((with_reducible refine BIF.dec ?_ ?_) <;> intro _)
      | ((with_reducible refine BIF.s ?_ ?_) <;> intro _)
      | (with_reducible refine NEXTK.normal ?_)
      | (with_reducible refine NEXTK.ret ?_)
      | (with_reducible refine NEXTK.exit ?_)
      | (with_reducible refine SEQ.plain ?_)
      | (with_reducible refine hK _ _ ?_)
      | ((with_reducible refine RUNL.agg (fun _ => ?_) ?_); (focus kernel_rfl))
      | (with_reducible refine RUNL.run ?_)
      | ((with_reducible refine AR.ok ?_ ?_); exact ⟨by first | omega | (dsimp only; omega), by first | omega | (dsimp only; omega)⟩)
      | (with_reducible refine AR.wr ?_)
      | ((with_reducible intro w3 e3); try have z3 := cutLe e3)
      | ((with_reducible intro h3); have h4 := Nat.le_of_lt h3; clear h4)))
    refine callF (g := 8) (by kernel_rfl) ⟨_, eqEntryS_c _ _ _ _ _ _ toG toW _ oG.top.row.1 oG.seen oW.top.row.1 oW.seen rfl rfl (by omega) (by omega) (fun t ht => by have := yoG.2.1 t ht; omega) (fun t ht => by have := yoW.2.1 t ht; omega), fun w5 e5 => ?_⟩
    rw [decide_eq_true (show toG.map (·.1) = toW.map (·.1) by rw [voG, voW])]
    have sz5 := e5.size
    replace oA := oA.e0 e5
    replace oW := oW.e0 e5
    replace oX := oX.e0 e5
    replace oG := oG.e0 e5
    repeat (any_goals (
      conv => whnf
      first
      | ((with_reducible refine BIF.s (fun h => absurd h ?_) (fun _ => ?_)); focus (first | (simp; done) | (simp; omega)))
      | ((with_reducible refine BIF.s (fun _ => ?_) (fun h => absurd h ?_)); rotate_left; focus (first | (simp; done) | (simp; omega)))
      | ((with_reducible refine BIF.dec (fun h => absurd h ?_) (fun _ => ?_)); (focus (rw [nxEs_eq]; omega)))
      | ((with_reducible refine BIF.bne (fun h => absurd rfl h) (fun _ => ?_)))
      | ((with_reducible refine BIF.dec ?_ ?_) <;> intro _)
      | ((with_reducible refine BIF.s ?_ ?_) <;> intro _)
      | (with_reducible refine NEXTK.normal ?_)
      | (with_reducible refine NEXTK.ret ?_)
      | (with_reducible refine NEXTK.exit ?_)
      | (with_reducible refine SEQ.plain ?_)
      | (with_reducible refine hK _ _ ?_)
      | ((with_reducible refine RUNL.agg (fun _ => ?_) ?_); (focus kernel_rfl))
      | (with_reducible refine RUNL.run ?_)
      | ((with_reducible refine AR.ok ?_ ?_); exact ⟨by first | omega | (dsimp only; omega), by first | omega | (dsimp only; omega)⟩)
      | (with_reducible refine AR.wr ?_)
      | ((with_reducible intro w3 e3); try have z3 := cutLe e3)
      | ((with_reducible intro h3); have h4 := Nat.le_of_lt h3; clear h4)))
    refine callY (g := 6) (by kernel_rfl) ⟨_, fun x => toEntryS_c _ _ _ ts _ (hr0.ext x (mAddr_Non _)) (fun t ht => (hs0 t ht).ext x (mAddr_Non _)) hn0 (by omega) hzs, fun r w6 e6 hoB => ?_⟩
    obtain ⟨toB, uoB, oB⟩ := hoB
    have sz6 := e6.size
    replace oA := oA.e0 e6
    replace oW := oW.e0 e6
    replace oX := oX.e0 e6
    replace oG := oG.e0 e6
    obtain ⟨aoB, coB, rfl, qoB, poB⟩ := oB.top.rowx
    have loB : toB.length = n0 := by have := congrArg List.length uoB; simpa [hn0] using this
    have boB := fun b hb => oB.blk b hb
    have zoB : ∀ t ∈ toB, t.1.fSeen.length ≤ 1048576 := fun t ht => lenT_eq hzs uoB t ht
    repeat (any_goals (
      conv => whnf
      first
      | ((with_reducible refine BIF.s (fun h => absurd h ?_) (fun _ => ?_)); focus (first | (simp; done) | (simp; omega)))
      | ((with_reducible refine BIF.s (fun _ => ?_) (fun h => absurd h ?_)); rotate_left; focus (first | (simp; done) | (simp; omega)))
      | ((with_reducible refine BIF.dec (fun h => absurd h ?_) (fun _ => ?_)); (focus (rw [nxEs_eq]; omega)))
      | ((with_reducible refine BIF.bne (fun h => absurd rfl h) (fun _ => ?_)))
      | ((with_reducible refine BIF.dec ?_ ?_) <;> intro _)
      | ((with_reducible refine BIF.s ?_ ?_) <;> intro _)
      | (with_reducible refine NEXTK.normal ?_)
      | (with_reducible refine NEXTK.ret ?_)
      | (with_reducible refine NEXTK.exit ?_)
      | (with_reducible refine SEQ.plain ?_)
      | (with_reducible refine hK _ _ ?_)
      | ((with_reducible refine RUNL.agg (fun _ => ?_) ?_); (focus kernel_rfl))
      | (with_reducible refine RUNL.run ?_)
      | ((with_reducible refine AR.ok ?_ ?_); exact ⟨by first | omega | (dsimp only; omega), by first | omega | (dsimp only; omega)⟩)
      | (with_reducible refine AR.wr ?_)
      | ((with_reducible intro w3 e3); try have z3 := cutLe e3)
      | ((with_reducible intro h3); have h4 := Nat.le_of_lt h3; clear h4)))
    refine callF (g := 8) (by kernel_rfl) ⟨_, eqEntryS_c _ _ _ _ _ _ toX toB _ oX.top.row.1 oX.seen oB.top.row.1 oB.seen rfl rfl (by omega) (by omega) (fun t ht => by have := zoX t ht; omega) (fun t ht => by have := zoB t ht; omega), fun w7 e7 => ?_⟩
    rw [decide_eq_true (show toX.map (·.1) = toB.map (·.1) by rw [uoX, uoB])]
    have sz7 := e7.size
    replace oA := oA.e0 e7
    replace oW := oW.e0 e7
    replace oX := oX.e0 e7
    replace oG := oG.e0 e7
    replace oB := oB.e0 e7
    repeat (any_goals (
      conv => whnf
      first
      | ((with_reducible refine BIF.s (fun h => absurd h ?_) (fun _ => ?_)); focus (first | (simp; done) | (simp; omega)))
      | ((with_reducible refine BIF.s (fun _ => ?_) (fun h => absurd h ?_)); rotate_left; focus (first | (simp; done) | (simp; omega)))
      | ((with_reducible refine BIF.dec (fun h => absurd h ?_) (fun _ => ?_)); (focus (rw [nxEs_eq]; omega)))
      | ((with_reducible refine BIF.bne (fun h => absurd rfl h) (fun _ => ?_)))
      | ((with_reducible refine BIF.dec ?_ ?_) <;> intro _)
      | ((with_reducible refine BIF.s ?_ ?_) <;> intro _)
      | (with_reducible refine NEXTK.normal ?_)
      | (with_reducible refine NEXTK.ret ?_)
      | (with_reducible refine NEXTK.exit ?_)
      | (with_reducible refine SEQ.plain ?_)
      | (with_reducible refine hK _ _ ?_)
      | ((with_reducible refine RUNL.agg (fun _ => ?_) ?_); (focus kernel_rfl))
      | (with_reducible refine RUNL.run ?_)
      | ((with_reducible refine AR.ok ?_ ?_); exact ⟨by first | omega | (dsimp only; omega), by first | omega | (dsimp only; omega)⟩)
      | (with_reducible refine AR.wr ?_)
      | ((with_reducible intro w3 e3); try have z3 := cutLe e3)
      | ((with_reducible intro h3); have h4 := Nat.le_of_lt h3; clear h4)))
    refine callM (g := 9) (by kernel_rfl) ⟨_, _, trivial, fun b hb h => by have := (boX b h).1; omega, markEntryS_c _ _ _ _ toX 1 _ oX rfl (by omega) (by rw [lens_eq (uoX : _ = ts.map (·.1))]; omega) (by omega), fun r w8 e8 h => ?_⟩
    obtain ⟨rfl, moX, foX, goX, xoX⟩ := h
    have sz8 := e8.size
    replace oA := oA.ext e8 (fun b hb h => by have := boA b hb; have := boX b h; omega)
    replace oW := oW.ext e8 (fun b hb h => by have := boW b hb; have := boX b h; omega)
    replace oG := oG.ext e8 (fun b hb h => by have := boG b hb; have := boX b h; omega)
    replace oB := oB.ext e8 (fun b hb h => by have := boB b hb; have := boX b h; omega)
    clear oX
    have bxoX := fun b hb => boX b (blksT_eq goX hb)
    repeat (any_goals (
      conv => whnf
      first
      | ((with_reducible refine BIF.s (fun h => absurd h ?_) (fun _ => ?_)); focus (first | (simp; done) | (simp; omega)))
      | ((with_reducible refine BIF.s (fun _ => ?_) (fun h => absurd h ?_)); rotate_left; focus (first | (simp; done) | (simp; omega)))
      | ((with_reducible refine BIF.dec (fun h => absurd h ?_) (fun _ => ?_)); (focus (rw [nxEs_eq]; omega)))
      | ((with_reducible refine BIF.bne (fun h => absurd rfl h) (fun _ => ?_)))
      | ((with_reducible refine BIF.dec ?_ ?_) <;> intro _)
      | ((with_reducible refine BIF.s ?_ ?_) <;> intro _)
      | (with_reducible refine NEXTK.normal ?_)
      | (with_reducible refine NEXTK.ret ?_)
      | (with_reducible refine NEXTK.exit ?_)
      | (with_reducible refine SEQ.plain ?_)
      | (with_reducible refine hK _ _ ?_)
      | ((with_reducible refine RUNL.agg (fun _ => ?_) ?_); (focus kernel_rfl))
      | (with_reducible refine RUNL.run ?_)
      | ((with_reducible refine AR.ok ?_ ?_); exact ⟨by first | omega | (dsimp only; omega), by first | omega | (dsimp only; omega)⟩)
      | (with_reducible refine AR.wr ?_)
      | ((with_reducible intro w3 e3); try have z3 := cutLe e3)
      | ((with_reducible intro h3); have h4 := Nat.le_of_lt h3; clear h4)))
    refine callF (g := 8) (by kernel_rfl) ⟨_, eqEntryS_c _ _ _ _ _ _ toG toW _ oG.top.row.1 oG.seen oW.top.row.1 oW.seen rfl rfl (by omega) (by omega) (fun t ht => by have := yoG.2.1 t ht; omega) (fun t ht => by have := yoW.2.1 t ht; omega), fun w9 e9 => ?_⟩
    rw [decide_eq_true (show toG.map (·.1) = toW.map (·.1) by rw [voG, voW])]
    have sz9 := e9.size
    replace oA := oA.e0 e9
    replace oW := oW.e0 e9
    replace xoX := xoX.e0 e9
    replace oG := oG.e0 e9
    replace oB := oB.e0 e9
    repeat (any_goals (
      conv => whnf
      first
      | ((with_reducible refine BIF.s (fun h => absurd h ?_) (fun _ => ?_)); focus (first | (simp; done) | (simp; omega)))
      | ((with_reducible refine BIF.s (fun _ => ?_) (fun h => absurd h ?_)); rotate_left; focus (first | (simp; done) | (simp; omega)))
      | ((with_reducible refine BIF.dec (fun h => absurd h ?_) (fun _ => ?_)); (focus (rw [nxEs_eq]; omega)))
      | ((with_reducible refine BIF.bne (fun h => absurd rfl h) (fun _ => ?_)))
      | ((with_reducible refine BIF.dec ?_ ?_) <;> intro _)
      | ((with_reducible refine BIF.s ?_ ?_) <;> intro _)
      | (with_reducible refine NEXTK.normal ?_)
      | (with_reducible refine NEXTK.ret ?_)
      | (with_reducible refine NEXTK.exit ?_)
      | (with_reducible refine SEQ.plain ?_)
      | (with_reducible refine hK _ _ ?_)
      | ((with_reducible refine RUNL.agg (fun _ => ?_) ?_); (focus kernel_rfl))
      | (with_reducible refine RUNL.run ?_)
      | ((with_reducible refine AR.ok ?_ ?_); exact ⟨by first | omega | (dsimp only; omega), by first | omega | (dsimp only; omega)⟩)
      | (with_reducible refine AR.wr ?_)
      | ((with_reducible intro w3 e3); try have z3 := cutLe e3)
      | ((with_reducible intro h3); have h4 := Nat.le_of_lt h3; clear h4)))
    refine callM (g := 9) (by kernel_rfl) ⟨_, _, trivial, fun b hb h => by have := (boG b h).1; omega, markEntryS_c _ _ _ _ toG 1 _ oG rfl (by omega) (by have := yoG.1; omega) (by omega), fun r w10 e10 h => ?_⟩
    obtain ⟨rfl, moG, foG, goG, xoG⟩ := h
    have sz10 := e10.size
    replace oA := oA.ext e10 (fun b hb h => by have := boA b hb; have := boG b h; omega)
    replace oW := oW.ext e10 (fun b hb h => by have := boW b hb; have := boG b h; omega)
    replace xoX := xoX.ext e10 (fun b hb h => by have := bxoX b hb; have := boG b h; omega)
    replace oB := oB.ext e10 (fun b hb h => by have := boB b hb; have := boG b h; omega)
    clear oG
    have bxoG := fun b hb => boG b (blksT_eq goG hb)
    repeat (any_goals (
      conv => whnf
      first
      | ((with_reducible refine BIF.s (fun h => absurd h ?_) (fun _ => ?_)); focus (first | (simp; done) | (simp; omega)))
      | ((with_reducible refine BIF.s (fun _ => ?_) (fun h => absurd h ?_)); rotate_left; focus (first | (simp; done) | (simp; omega)))
      | ((with_reducible refine BIF.dec (fun h => absurd h ?_) (fun _ => ?_)); (focus (rw [nxEs_eq]; omega)))
      | ((with_reducible refine BIF.bne (fun h => absurd rfl h) (fun _ => ?_)))
      | ((with_reducible refine BIF.dec ?_ ?_) <;> intro _)
      | ((with_reducible refine BIF.s ?_ ?_) <;> intro _)
      | (with_reducible refine NEXTK.normal ?_)
      | (with_reducible refine NEXTK.ret ?_)
      | (with_reducible refine NEXTK.exit ?_)
      | (with_reducible refine SEQ.plain ?_)
      | (with_reducible refine hK _ _ ?_)
      | ((with_reducible refine RUNL.agg (fun _ => ?_) ?_); (focus kernel_rfl))
      | (with_reducible refine RUNL.run ?_)
      | ((with_reducible refine AR.ok ?_ ?_); exact ⟨by first | omega | (dsimp only; omega), by first | omega | (dsimp only; omega)⟩)
      | (with_reducible refine AR.wr ?_)
      | ((with_reducible intro w3 e3); try have z3 := cutLe e3)
      | ((with_reducible intro h3); have h4 := Nat.le_of_lt h3; clear h4)))
    refine callF (g := 10) (by kernel_rfl) ⟨_, heldEntryS_c _ _ _ moG (toG.map (·.1)) 1 _ xoG.top.row.1 xoG.seen foG (by rw [← List.length_map (f := (·.2)), goG, List.length_map]) (by omega) (by rw [lens_mk foG]; have := yoG.1; omega) (by omega), fun w11 e11 => ?_⟩
    have sz11 := e11.size
    replace oA := oA.e0 e11
    replace oW := oW.e0 e11
    replace xoX := xoX.e0 e11
    replace xoG := xoG.e0 e11
    replace oB := oB.e0 e11
    repeat (any_goals (
      conv => whnf
      first
      | ((with_reducible refine BIF.s (fun h => absurd h ?_) (fun _ => ?_)); focus (first | (simp; done) | (simp; omega)))
      | ((with_reducible refine BIF.s (fun _ => ?_) (fun h => absurd h ?_)); rotate_left; focus (first | (simp; done) | (simp; omega)))
      | ((with_reducible refine BIF.dec (fun h => absurd h ?_) (fun _ => ?_)); (focus (rw [nxEs_eq]; omega)))
      | ((with_reducible refine BIF.bne (fun h => absurd rfl h) (fun _ => ?_)))
      | ((with_reducible refine BIF.dec ?_ ?_) <;> intro _)
      | ((with_reducible refine BIF.s ?_ ?_) <;> intro _)
      | (with_reducible refine NEXTK.normal ?_)
      | (with_reducible refine NEXTK.ret ?_)
      | (with_reducible refine NEXTK.exit ?_)
      | (with_reducible refine SEQ.plain ?_)
      | (with_reducible refine hK _ _ ?_)
      | ((with_reducible refine RUNL.agg (fun _ => ?_) ?_); (focus kernel_rfl))
      | (with_reducible refine RUNL.run ?_)
      | ((with_reducible refine AR.ok ?_ ?_); exact ⟨by first | omega | (dsimp only; omega), by first | omega | (dsimp only; omega)⟩)
      | (with_reducible refine AR.wr ?_)
      | ((with_reducible intro w3 e3); try have z3 := cutLe e3)
      | ((with_reducible intro h3); have h4 := Nat.le_of_lt h3; clear h4)))
    refine callY (g := 6) (by kernel_rfl) ⟨_, fun x => toEntryS_c _ _ _ ts _ (hr0.ext x (mAddr_Non _)) (fun t ht => (hs0 t ht).ext x (mAddr_Non _)) hn0 (by omega) hzs, fun r w12 e12 hoC => ?_⟩
    obtain ⟨toC, uoC, oC⟩ := hoC
    have sz12 := e12.size
    replace oA := oA.e0 e12
    replace oW := oW.e0 e12
    replace xoX := xoX.e0 e12
    replace xoG := xoG.e0 e12
    replace oB := oB.e0 e12
    obtain ⟨aoC, coC, rfl, qoC, poC⟩ := oC.top.rowx
    have loC : toC.length = n0 := by have := congrArg List.length uoC; simpa [hn0] using this
    have boC := fun b hb => oC.blk b hb
    have zoC : ∀ t ∈ toC, t.1.fSeen.length ≤ 1048576 := fun t ht => lenT_eq hzs uoC t ht
    repeat (any_goals (
      conv => whnf
      first
      | ((with_reducible refine BIF.s (fun h => absurd h ?_) (fun _ => ?_)); focus (first | (simp; done) | (simp; omega)))
      | ((with_reducible refine BIF.s (fun _ => ?_) (fun h => absurd h ?_)); rotate_left; focus (first | (simp; done) | (simp; omega)))
      | ((with_reducible refine BIF.dec (fun h => absurd h ?_) (fun _ => ?_)); (focus (rw [nxEs_eq]; omega)))
      | ((with_reducible refine BIF.bne (fun h => absurd rfl h) (fun _ => ?_)))
      | ((with_reducible refine BIF.dec ?_ ?_) <;> intro _)
      | ((with_reducible refine BIF.s ?_ ?_) <;> intro _)
      | (with_reducible refine NEXTK.normal ?_)
      | (with_reducible refine NEXTK.ret ?_)
      | (with_reducible refine NEXTK.exit ?_)
      | (with_reducible refine SEQ.plain ?_)
      | (with_reducible refine hK _ _ ?_)
      | ((with_reducible refine RUNL.agg (fun _ => ?_) ?_); (focus kernel_rfl))
      | (with_reducible refine RUNL.run ?_)
      | ((with_reducible refine AR.ok ?_ ?_); exact ⟨by first | omega | (dsimp only; omega), by first | omega | (dsimp only; omega)⟩)
      | (with_reducible refine AR.wr ?_)
      | ((with_reducible intro w3 e3); try have z3 := cutLe e3)
      | ((with_reducible intro h3); have h4 := Nat.le_of_lt h3; clear h4)))
    refine callY (g := 7) (by kernel_rfl) ⟨_, fun x => MergeAlike_c _ _ _ toC _ oC.top.row.1 oC.seen rfl (by omega) (by omega) (fun t ht => by have := zoC t ht; omega), fun r w13 e13 hoH => ?_⟩
    obtain ⟨soH, toH, rfl, voH, oH⟩ := hoH
    rw [uoC] at voH ⊢
    have sz13 := e13.size
    replace oA := oA.e0 e13
    replace oW := oW.e0 e13
    replace xoX := xoX.e0 e13
    replace xoG := xoG.e0 e13
    replace oB := oB.e0 e13
    replace oC := oC.e0 e13
    obtain ⟨aoH, coH, rfl, qoH, poH⟩ := oH.top.rowx
    have boH := fun b hb => oH.blk b hb
    have yoH := bndMergeAlike voH
    repeat (any_goals (
      conv => whnf
      first
      | ((with_reducible refine BIF.s (fun h => absurd h ?_) (fun _ => ?_)); focus (first | (simp; done) | (simp; omega)))
      | ((with_reducible refine BIF.s (fun _ => ?_) (fun h => absurd h ?_)); rotate_left; focus (first | (simp; done) | (simp; omega)))
      | ((with_reducible refine BIF.dec (fun h => absurd h ?_) (fun _ => ?_)); (focus (rw [nxEs_eq]; omega)))
      | ((with_reducible refine BIF.bne (fun h => absurd rfl h) (fun _ => ?_)))
      | ((with_reducible refine BIF.dec ?_ ?_) <;> intro _)
      | ((with_reducible refine BIF.s ?_ ?_) <;> intro _)
      | (with_reducible refine NEXTK.normal ?_)
      | (with_reducible refine NEXTK.ret ?_)
      | (with_reducible refine NEXTK.exit ?_)
      | (with_reducible refine SEQ.plain ?_)
      | (with_reducible refine hK _ _ ?_)
      | ((with_reducible refine RUNL.agg (fun _ => ?_) ?_); (focus kernel_rfl))
      | (with_reducible refine RUNL.run ?_)
      | ((with_reducible refine AR.ok ?_ ?_); exact ⟨by first | omega | (dsimp only; omega), by first | omega | (dsimp only; omega)⟩)
      | (with_reducible refine AR.wr ?_)
      | ((with_reducible intro w3 e3); try have z3 := cutLe e3)
      | ((with_reducible intro h3); have h4 := Nat.le_of_lt h3; clear h4)))
    refine callF (g := 8) (by kernel_rfl) ⟨_, eqEntryS_c _ _ _ _ _ _ toH toW _ oH.top.row.1 oH.seen oW.top.row.1 oW.seen rfl rfl (by omega) (by omega) (fun t ht => by have := yoH.2.1 t ht; omega) (fun t ht => by have := yoW.2.1 t ht; omega), fun w14 e14 => ?_⟩
    rw [decide_eq_true (show toH.map (·.1) = toW.map (·.1) by rw [voH, voW])]
    have sz14 := e14.size
    replace oA := oA.e0 e14
    replace oW := oW.e0 e14
    replace xoX := xoX.e0 e14
    replace xoG := xoG.e0 e14
    replace oB := oB.e0 e14
    replace oC := oC.e0 e14
    replace oH := oH.e0 e14
    repeat (any_goals (
      conv => whnf
      first
      | ((with_reducible refine BIF.s (fun h => absurd h ?_) (fun _ => ?_)); focus (first | (simp; done) | (simp; omega)))
      | ((with_reducible refine BIF.s (fun _ => ?_) (fun h => absurd h ?_)); rotate_left; focus (first | (simp; done) | (simp; omega)))
      | ((with_reducible refine BIF.dec (fun h => absurd h ?_) (fun _ => ?_)); (focus (rw [nxEs_eq]; omega)))
      | ((with_reducible refine BIF.bne (fun h => absurd rfl h) (fun _ => ?_)))
      | ((with_reducible refine BIF.dec ?_ ?_) <;> intro _)
      | ((with_reducible refine BIF.s ?_ ?_) <;> intro _)
      | (with_reducible refine NEXTK.normal ?_)
      | (with_reducible refine NEXTK.ret ?_)
      | (with_reducible refine NEXTK.exit ?_)
      | (with_reducible refine SEQ.plain ?_)
      | (with_reducible refine hK _ _ ?_)
      | ((with_reducible refine RUNL.agg (fun _ => ?_) ?_); (focus kernel_rfl))
      | (with_reducible refine RUNL.run ?_)
      | ((with_reducible refine AR.ok ?_ ?_); exact ⟨by first | omega | (dsimp only; omega), by first | omega | (dsimp only; omega)⟩)
      | (with_reducible refine AR.wr ?_)
      | ((with_reducible intro w3 e3); try have z3 := cutLe e3)
      | ((with_reducible intro h3); have h4 := Nat.le_of_lt h3; clear h4)))
    refine callF (g := 10) (by kernel_rfl) ⟨_, heldEntryS_c _ _ _ moG (toG.map (·.1)) 1 _ xoG.top.row.1 xoG.seen foG (by rw [← List.length_map (f := (·.2)), goG, List.length_map]) (by omega) (by rw [lens_mk foG]; have := yoG.1; omega) (by omega), fun w15 e15 => ?_⟩
    have sz15 := e15.size
    replace oA := oA.e0 e15
    replace oW := oW.e0 e15
    replace xoX := xoX.e0 e15
    replace xoG := xoG.e0 e15
    replace oB := oB.e0 e15
    replace oC := oC.e0 e15
    replace oH := oH.e0 e15
    repeat (any_goals (
      conv => whnf
      first
      | ((with_reducible refine BIF.s (fun h => absurd h ?_) (fun _ => ?_)); focus (first | (simp; done) | (simp; omega)))
      | ((with_reducible refine BIF.s (fun _ => ?_) (fun h => absurd h ?_)); rotate_left; focus (first | (simp; done) | (simp; omega)))
      | ((with_reducible refine BIF.dec (fun h => absurd h ?_) (fun _ => ?_)); (focus (rw [nxEs_eq]; omega)))
      | ((with_reducible refine BIF.bne (fun h => absurd rfl h) (fun _ => ?_)))
      | ((with_reducible refine BIF.dec ?_ ?_) <;> intro _)
      | ((with_reducible refine BIF.s ?_ ?_) <;> intro _)
      | (with_reducible refine NEXTK.normal ?_)
      | (with_reducible refine NEXTK.ret ?_)
      | (with_reducible refine NEXTK.exit ?_)
      | (with_reducible refine SEQ.plain ?_)
      | (with_reducible refine hK _ _ ?_)
      | ((with_reducible refine RUNL.agg (fun _ => ?_) ?_); (focus kernel_rfl))
      | (with_reducible refine RUNL.run ?_)
      | ((with_reducible refine AR.ok ?_ ?_); exact ⟨by first | omega | (dsimp only; omega), by first | omega | (dsimp only; omega)⟩)
      | (with_reducible refine AR.wr ?_)
      | ((with_reducible intro w3 e3); try have z3 := cutLe e3)
      | ((with_reducible intro h3); have h4 := Nat.le_of_lt h3; clear h4)))
    intro hx
    exact ⟨rfl, hx⟩
set_option maxRecDepth 100000 in
theorem FnExactMergeAlike_lifted (os : Os) (started : os.Started) (H : Type) (enc : TypeId × Value → H) :
    ReturnsInHanded {} Try.checked os 3 .any (Rows.fnExactMergeAlikeSpec.pre6 enc Try.prog Try.f3 Rows.fnExactMergeAlikeRow.domain false) (Rows.fnExactMergeAlikeSpec.post enc Try.prog Try.f3 false true false false) := by
  refine returnsInHanded_of_change (C := Try.checked) own started (by kernel_rfl) Try.func3
    (ChangeSpec.witness6 (enc := enc) (C := Try.checked) false ⟨#[], #[.slice none 0 0], []⟩ 8 (by kernel_rfl) (by kernel_rfl) (by kernel_rfl) (by kernel_rfl)) ?_
  intro W base args ds gs before hval0 hW hcnd _
  have hval : ∀ (j : Nat) t v, Try.f3.params[j]? = some t → args[j]? = some v → Value.okWide Try.prog W .any base t v := hval0
  have hW' := hW
  obtain ⟨p, q, hA0, hV, rfl, hfz, hnd⟩ := hW
  have hA : DataW.TrodAll enc Try.prog W 0 (fun _ => true) true Try.f3.params.toList args.toList ds p := hA0
  rw [Try.params3] at hA hval
  obtain ⟨v0, vs0, d0, ds0, p0, q0, hargs, rfl, rfl, h0, r0⟩ := trodAll_cons hA
  obtain ⟨rfl, rfl, rfl⟩ := trodAll_nil r0
  obtain rfl : args = #[v0] := by cases args; simp_all
  obtain ⟨rfl, rfl⟩ := trodVars_none hV
  obtain ⟨a0, n0, c0, rfl⟩ := okWide_slice Try.underlying22 (hval 0 22 v0 rfl rfl)
  have k0 := h0
  have lt0 : ∀ x ∈ p0, x.block < W.heap.size := by obtain ⟨m, hm⟩ := k0; exact DataW.trod_lt m _ _ _ hm
  obtain ⟨xs0, w0, l0, b0, g0⟩ := open_rows Try.underlying22 (by kernel_rfl) cellsEnt h0
  clear hA0 hval0
  refine (FnExactMergeAlike_w W a0 n0 c0 xs0 w0 l0 b0 g0).mono fun e W' ⟨he, x⟩ => ?_
  subst he
  have bel := x.toBelow
  exact ⟨_, rfl, _, _, _, [], _, [], hW', trodAll_mk1 (shut_bool Try.underlying4 _), (trodAll_cons_mk (Below.trod laidOut (by kernel_rfl) (of_decide_eq_true (by kernel_rfl)) k0 bel lt0) trodAll_mk0), rfl, bel.frame _, fun h => by cases h⟩
theorem FnExactMergeAlike_holds : Rows.fnExactMergeAlikeRow.holds Try.pinned (OpenSpec.ofChange Rows.fnExactMergeAlikeSpec) :=
  OpenClaim.holds_of_wide 3 Try.f3 rfl rfl rfl rfl rfl rfl rfl ⟨rfl, rfl, rfl, rfl, rfl⟩ rfl rfl rfl rfl rfl (by kernel_rfl) Try.func3 (by kernel_rfl)
    (of_decide_eq_true (by kernel_rfl)) (by unfold Func.isWrapper; first | (rw [if_pos (by decide +kernel)]; kernel_rfl) | (rw [if_neg (by decide +kernel)]; exact ⟨rfl, rfl⟩))
    (fun os started H enc _ => FnExactMergeAlike_lifted os started H enc)
end Go.Proofs.Ytpddilkonkkppaa

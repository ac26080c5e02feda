/- HangingOn. -/
import Derived.Test.YthgeeocmhdpgiaaDoorRows
import Derived.Test.YthgeeocmhdpgiaaDoorFramesA
import Derived.Test.YthgeeocmhdpgiaaDoorFrames8
namespace Go.Proofs.YthgeeocmhdpgiaaDoor
open Go Go.X Go.Proofs Go.ChangeShapes Go.WideShapes Go.ChangeAt Go.RowKit
open Go.ChangeMaps (open_string shut_string)
set_option maxHeartbeats 1000000
set_option maxRecDepth 20000
set_option linter.unusedVariables false
set_option linter.unusedSimpArgs false
theorem HangingOn1_c (x : Frm) (d : Int) (p : Addr) (w : World) (hp : Row w (some p) 1 [[.int .i64 d]]) :
    Calls Tryd.prog 53 #[.agg (encFrm x).toArray, .pointer (some p)] w fun e w' => e = .returned (.bool (!onDay d x)) ∧ E0 w w' := by
  refine enterK Non 8 Tryd.func53 rfl rfl rfl fun K hK => ?_
  repeat (any_goals (
    conv => whnf
    first
    | ((with_reducible refine ELD.old [[.int .i64 d]] [.int .i64 d] hp ?_ ?_ ?_); exact mAddr_Non _; rfl)
    | ((with_reducible refine callF (g := 54) ?_ ?_); kernel_rfl; refine ⟨_, hangs_c _ _ _, ?_⟩; intro w4 e4; have z4 := cutLe e4)
    | ((with_reducible refine BIF.dec ?_ ?_) <;> intro _)
    | ((with_reducible refine BIF.s ?_ ?_) <;> intro _)
    | (with_reducible refine NEXTK.normal ?_)
    | (with_reducible refine NEXTK.ret ?_)
    | (with_reducible refine NEXTK.exit ?_)
    | (with_reducible refine SEQ.plain ?_)
    | (with_reducible refine hK _ _ ?_)
    | ((with_reducible refine RUNL.agg (fun _ => ?_) ?_); (focus kernel_rfl))
    | (with_reducible refine RUNL.run ?_)
    | ((with_reducible refine AR.ok ?_ ?_); exact ⟨by first | omega | (dsimp only; omega), by first | omega | (dsimp only; omega)⟩)
    | (with_reducible refine AR.wr ?_)
    | ((with_reducible intro w3 e3); try have z3 := cutLe e3)
    | ((with_reducible intro h3); have h4 := Nat.le_of_lt h3; clear h4)))
  intro hx
  exact ⟨rfl, hx⟩
theorem HangingOn2_c (x y : Frm) (w : World) :
    Calls Tryd.prog 56 #[.agg (encFrm x).toArray, .agg (encFrm y).toArray] w fun e w' => e = .returned (.int .i64 (cmp3 x.fWall y.fWall)) ∧ E0 w w' := by
  refine enterK Non 10 Tryd.func56 rfl rfl rfl fun K hK => ?_
  repeat (any_goals (
    conv => whnf
    first
    | ((with_reducible refine callF (g := 57) ?_ ?_); kernel_rfl; refine ⟨_, Compare_c _ _ _, ?_⟩; intro w4 e4; have z4 := cutLe e4)
    | ((with_reducible refine BIF.dec ?_ ?_) <;> intro _)
    | ((with_reducible refine BIF.s ?_ ?_) <;> intro _)
    | (with_reducible refine NEXTK.normal ?_)
    | (with_reducible refine NEXTK.ret ?_)
    | (with_reducible refine NEXTK.exit ?_)
    | (with_reducible refine SEQ.plain ?_)
    | (with_reducible refine hK _ _ ?_)
    | ((with_reducible refine RUNL.agg (fun _ => ?_) ?_); (focus kernel_rfl))
    | (with_reducible refine RUNL.run ?_)
    | ((with_reducible refine AR.ok ?_ ?_); exact ⟨by first | omega | (dsimp only; omega), by first | omega | (dsimp only; omega)⟩)
    | (with_reducible refine AR.wr ?_)
    | ((with_reducible intro w3 e3); try have z3 := cutLe e3)
    | ((with_reducible intro h3); have h4 := Nat.le_of_lt h3; clear h4)))
  intro hx
  exact ⟨rfl, hx⟩
theorem hang_sorted {xs : List Frm} (d : Int) (h : ∀ x ∈ xs, 1 ≤ x.fWall ∧ x.fWall ≤ 4) : (isort (fun x : Frm => x.fWall) (xs.filter fun x => !!onDay d x)).map (·.fId) = hangUp xs d 4 := by
  obtain ⟨ys, hys⟩ : ∃ ys, ys = xs.filter fun x => !!onDay d x := ⟨_, rfl⟩
  have hy : ∀ y ∈ ys, 1 ≤ y.fWall ∧ y.fWall ≤ 4 := by
    intro y hyy
    rw [hys] at hyy
    exact h y (List.mem_filter.1 hyy).1
  obtain ⟨h1, h2, h3⟩ := isort_all (fun x : Frm => x.fWall) ys ys.length (Nat.le_refl _)
  rw [List.take_length] at h1 h2 h3
  have hmem : ∀ y ∈ isort (fun x : Frm => x.fWall) ys, 1 ≤ y.fWall ∧ y.fWall ≤ 4 := by
    intro y hyy
    have : y ∈ (isort (fun x : Frm => x.fWall) ys).filter (fun z => decide (z.fWall = y.fWall)) := List.mem_filter.2 ⟨hyy, by simp⟩
    rw [h3] at this
    exact hy y (List.mem_filter.1 this).1
  rw [← hys, sorted_walls (fun x : Frm => x.fWall) h1 hmem, h3, h3, h3, h3]
  have e : ∀ v : Int, (ys.filter (fun z => decide (z.fWall = v))).map (·.fId) = hangW d v xs := by
    intro v
    rw [hys, List.filter_filter]
    unfold hangW
    simp
  simp only [List.map_append, e]
  have e4 : hangUp xs d 4 = [] ++ hangW d 1 xs ++ hangW d 2 xs ++ hangW d 3 xs ++ hangW d 4 xs := rfl
  rw [e4]
  simp
theorem HangingOn_c (a : Option Addr) (n c : Nat) (xs : List Frm) (d : Int) (w : World) (hr : Row w a 5 (xs.map encFrm)) (hn : xs.length = n) (hm : n ≤ 1048577) :
    Calls Tryd.prog 19 #[.slice a n c, .int .i64 d] w fun e w' => ∃ v, e = .returned v ∧ E0 w w' ∧ ∃ s, v = .tuple #[s, .bool (hangingP xs d).2] ∧ Own w' w.heap.size 3 1 s ((hangingP xs d).1.map encI) := by
  refine enterK Non 37 Tryd.func19 rfl rfl rfl fun K hK => ?_
  by_cases ho : areF xs = true ∧ inB d 0 4000 = true
  · have hf : hangingP xs d = (hangUp xs d 4, true) := by simp [hangingP, ho]
    have hl := areF_len ho.1
    repeat (any_goals (
      conv => whnf
      first
      | ((with_reducible refine callX (g := 36) ?_ ?_); kernel_rfl; intro hX; refine ⟨_, AreFrames_c _ _ _ xs _ (hr.ext hX (mAddr_Non _)) hn (by omega), ?_⟩; intro w4 e4; have z4 := cutLe e4)
      | ((with_reducible refine callF (g := 51) ?_ ?_); kernel_rfl; refine ⟨_, isDay_c _ _, ?_⟩; intro w4 e4; have z4 := cutLe e4)
      | ((exfalso; clear hK; simp_all <;> omega))
      | ((with_reducible refine RUN.mk (fun _ => rfl) ?_))
      | ((with_reducible refine BIF.dec ?_ ?_) <;> intro _)
      | ((with_reducible refine BIF.s ?_ ?_) <;> intro _)
      | (with_reducible refine NEXTK.normal ?_)
      | (with_reducible refine NEXTK.ret ?_)
      | (with_reducible refine NEXTK.exit ?_)
      | (with_reducible refine SEQ.plain ?_)
      | (with_reducible refine hK _ _ ?_)
      | ((with_reducible refine RUNL.agg (fun _ => ?_) ?_); (focus kernel_rfl))
      | (with_reducible refine RUNL.run ?_)
      | ((with_reducible refine AR.ok ?_ ?_); exact ⟨by first | omega | (dsimp only; omega), by first | omega | (dsimp only; omega)⟩)
      | (with_reducible refine AR.wr ?_)
      | ((with_reducible intro w3 e3); try have z3 := cutLe e3)
      | ((with_reducible intro h3); have h4 := Nat.le_of_lt h3; clear h4)))
    conv => whnf
    refine callY (g := 49) (by kernel_rfl) ⟨_, fun x => CloneFrm_c _ _ _ xs _ (hr.ext x (mAddr_Non _)) hn (by omega), fun r w5 e5 oC => ?_⟩
    have z5 := cutLe e5
    have oL := fun k h => oC.block (k := k) h
    obtain ⟨b5, d5, rfl, q5, p5⟩ := oC.rowx
    repeat (any_goals (
      conv => whnf
      first
      | ((with_reducible refine RUN.mk (fun _ => rfl) ?_))
      | ((with_reducible refine BIF.dec ?_ ?_) <;> intro _)
      | ((with_reducible refine BIF.s ?_ ?_) <;> intro _)
      | (with_reducible refine NEXTK.normal ?_)
      | (with_reducible refine NEXTK.ret ?_)
      | (with_reducible refine NEXTK.exit ?_)
      | (with_reducible refine SEQ.plain ?_)
      | (with_reducible refine hK _ _ ?_)
      | ((with_reducible refine RUNL.agg (fun _ => ?_) ?_); (focus kernel_rfl))
      | (with_reducible refine RUNL.run ?_)
      | ((with_reducible refine AR.ok ?_ ?_); exact ⟨by first | omega | (dsimp only; omega), by first | omega | (dsimp only; omega)⟩)
      | (with_reducible refine AR.wr ?_)
      | ((with_reducible intro w3 e3); try have z3 := cutLe e3)
      | ((with_reducible intro h3); have h4 := Nat.le_of_lt h3; clear h4)))
    conv => whnf
    refine callMB (g := 52) (by kernel_rfl) ⟨_, _, ⟨fun h => by have := (oL _ h).1; dsimp only at this; omega, trivial⟩, fun b hb h => oC.fresh (by show w.heap.size ≤ _; omega) b hb h,
      fun hbx => DeleteFuncFrm_c (fun x => !onDay d x) _ _ _ _ xs _ _ _ oC rfl (by omega) p5 (by kernel_rfl) (fun x hx w' e => HangingOn1_c x d _ _ ((Boxes.row hbx 0 _ _ _ rfl).ext e (fun h => by have := (oL _ h).1; dsimp only at this; omega))), fun r w6 e6 o6 => ?_⟩
    have z6 := cutLe e6
    obtain ⟨ys, hys⟩ : ∃ ys, ys = xs.filter fun x => !!onDay d x := ⟨_, rfl⟩
    have hyl : ys.length ≤ 12 := by rw [hys]; exact Nat.le_trans (List.length_filter_le _ _) hl
    rw [← hys] at o6
    have oL6 := fun k h => o6.block (k := k) h
    obtain ⟨b6, d6, rfl, q6, p6⟩ := o6.rowx
    repeat (any_goals (
      conv => whnf
      first
      | ((with_reducible refine BIF.dec ?_ ?_) <;> intro _)
      | ((with_reducible refine BIF.s ?_ ?_) <;> intro _)
      | (with_reducible refine NEXTK.normal ?_)
      | (with_reducible refine NEXTK.ret ?_)
      | (with_reducible refine NEXTK.exit ?_)
      | (with_reducible refine SEQ.plain ?_)
      | (with_reducible refine hK _ _ ?_)
      | ((with_reducible refine RUNL.agg (fun _ => ?_) ?_); (focus kernel_rfl))
      | (with_reducible refine RUNL.run ?_)
      | ((with_reducible refine AR.ok ?_ ?_); exact ⟨by first | omega | (dsimp only; omega), by first | omega | (dsimp only; omega)⟩)
      | (with_reducible refine AR.wr ?_)
      | ((with_reducible intro w3 e3); try have z3 := cutLe e3)
      | ((with_reducible intro h3); have h4 := Nat.le_of_lt h3; clear h4)))
    conv => whnf
    refine callM (g := 55) (by kernel_rfl) ⟨_, _, ⟨fun h => by have := (oL6 _ h).1; dsimp only at this; omega, trivial⟩, fun b hb h => o6.fresh (by show w.heap.size ≤ _; omega) b hb h,
      sortStableFrm_c (fun x => x.fWall) _ _ _ _ ys _ _ o6 rfl (by omega) (by kernel_rfl) (fun x y w' => HangingOn2_c x y w'), fun r w7 e7 h7 => ?_⟩
    obtain ⟨rfl, o7⟩ := h7
    have z7 := cutLe e7
    obtain ⟨zs, hzs⟩ : ∃ zs, zs = isort (fun x : Frm => x.fWall) ys := ⟨_, rfl⟩
    have hzl : zs.length = ys.length := by
      have := (isort_all (fun x : Frm => x.fWall) ys ys.length (Nat.le_refl _)).2.1
      rw [List.take_length] at this
      rw [hzs]; exact this
    have hids : zs.map (·.fId) = hangUp xs d 4 := by
      rw [hzs, hys]
      exact hang_sorted d (fun x hx => by have := okF_spec (areF_ok ho.1 x hx); omega)
    rw [← hzs] at o7
    have oS := fun k h => o7.block (k := k) h
    repeat (any_goals (
      conv => whnf
      first
      | ((with_reducible refine BIF.dec ?_ ?_) <;> intro _)
      | ((with_reducible refine BIF.s ?_ ?_) <;> intro _)
      | (with_reducible refine NEXTK.normal ?_)
      | (with_reducible refine NEXTK.ret ?_)
      | (with_reducible refine NEXTK.exit ?_)
      | (with_reducible refine SEQ.plain ?_)
      | (with_reducible refine hK _ _ ?_)
      | ((with_reducible refine RUNL.agg (fun _ => ?_) ?_); (focus kernel_rfl))
      | (with_reducible refine RUNL.run ?_)
      | ((with_reducible refine AR.ok ?_ ?_); exact ⟨by first | omega | (dsimp only; omega), by first | omega | (dsimp only; omega)⟩)
      | (with_reducible refine AR.wr ?_)
      | ((with_reducible intro w3 e3); try have z3 := cutLe e3)
      | ((with_reducible intro h3); have h4 := Nat.le_of_lt h3; clear h4)))
    conv => whnf
    refine LOOP.mk (Nat × (Option Addr × Nat × Nat)) (fun g => [(26, .v (.int .i64 g.1)), (7, .v (.slice g.2.1 g.2.2.1 g.2.2.2))])
      (fun g wr => g.1 ≤ zs.length ∧ w7.heap.size ≤ wr.heap.size ∧ Own wr w7.heap.size 3 1 (.slice g.2.1 g.2.2.1 g.2.2.2) (((zs.take g.1).map (·.fId)).map encI) ∧ Own wr w4.heap.size 26 5 (.slice b6 ys.length d6) (zs.map encFrm)) (fun g => zs.length - g.1) (0, (none, 0, 0)) rfl ⟨rfl, rfl, trivial⟩ ⟨Nat.zero_le _, Nat.le_refl _, Own.nil _ _ _ _, o7⟩ ?_
    rintro ⟨j, ⟨b, m, e⟩⟩ wr - ⟨hj, hz, hown, hsrt⟩
    simp only at hj hz hown hsrt
    have oL2 := fun k h => hown.block (k := k) h
    have oS2 := fun k h => hsrt.block (k := k) h
    have hml := hown.row.2
    rw [List.length_map, List.length_map, List.length_take] at hml
    conv => whnf
    repeat (first | ((with_reducible refine NEXTK.normal ?_); conv => whnf) | ((with_reducible refine NEXTK.exit ?_); conv => whnf) | ((with_reducible refine NEXTK.ret ?_); conv => whnf) | ((with_reducible refine SEQ.plain ?_); conv => whnf) | ((with_reducible refine AR.ok ?_ ?_); exact ⟨by omega, by omega⟩; conv => whnf))
    refine BIF.dec (fun hlt => ?_) (fun hlt => ?_)
    · have hlt' : j < zs.length := by simp only at hlt; omega
      have his := hsrt.row.1.isSome (by simp; omega)
      obtain ⟨x, hx⟩ : ∃ x, zs[j]? = some x := ⟨zs[j]'(by omega), by simp⟩
      repeat (any_goals (
        conv => whnf
        first
        | ((with_reducible refine OBL.mk ?_ (fun _ => ?_)); exact ⟨by first | omega | (dsimp only; omega), by first | omega | (dsimp only; omega), his⟩)
        | ((with_reducible refine ELD.atNow (enc := encFrm) (xs := zs) (j) hsrt.row.1 ?_ ?_ (fun x' hx' => ?_)); (first | rfl | omega); omega; obtain rfl : x = x' := by (rw [hx] at hx'; exact Option.some.inj hx'))
        | ((with_reducible intro w3 e3); have z3 := cutLe e3; replace hown := hown.ext e3 (by first | exact fun _ _ h => h | (intro k hk h; have hh := oL2 k hk; simp only [bk] at h; omega)); replace hsrt := hsrt.ext e3 (by first | exact fun _ _ h => h | (intro k hk h; have hh := oS2 k hk; simp only [bk] at h; omega)))
        | ((with_reducible refine bsS elemI [.int .i64 x.fId] ?_ ?_ ?_ ?_ ?_); (focus rfl); (focus rfl); (focus (intro v hv; simp at hv; subst hv; rfl)); (focus omega); intro w9 e9 oB; have z9 := cutLe e9; (try replace oC := oC.e0 e9))
        | ((with_reducible refine BIF.dec ?_ ?_) <;> intro _)
        | ((with_reducible refine BIF.s ?_ ?_) <;> intro _)
        | (with_reducible refine NEXTK.normal ?_)
        | (with_reducible refine NEXTK.ret ?_)
        | (with_reducible refine NEXTK.exit ?_)
        | (with_reducible refine SEQ.plain ?_)
        | (with_reducible refine hK _ _ ?_)
        | ((with_reducible refine RUNL.agg (fun _ => ?_) ?_); (focus kernel_rfl))
        | (with_reducible refine RUNL.run ?_)
        | ((with_reducible refine AR.ok ?_ ?_); exact ⟨by first | omega | (dsimp only; omega), by first | omega | (dsimp only; omega)⟩)
        | (with_reducible refine AR.wr ?_)
        | ((with_reducible intro w3 e3); try have z3 := cutLe e3)
        | ((with_reducible intro h3); have h4 := Nat.le_of_lt h3; clear h4)))
      conv => whnf
      replace hown := hown.e0 e9
      replace hsrt := hsrt.e0 e9
      refine apS (ns := [encI x.fId]) elemI hown oB.row.1 rfl (by intro l hl; simp at hl; subst hl; rfl) ⟨by simp; omega, by simp; omega⟩ ⟨(by show w.heap.size ≤ _; omega), by omega⟩ ⟨fun h => by have := (oL2 _ h).1; dsimp only at this; omega, fun h => by have := (oL2 _ h).2; dsimp only at this; omega, trivial⟩ (fun v2 w2 x2 o2 => ?_)
      have z2 := cutLe x2
      replace hsrt := hsrt.past x2 (fun k h1 h2 => by have := (oS k h1).2; have := (oL2 k h2).1; omega)
      replace o2 : Own w2 w7.heap.size 3 1 v2 (((zs.take (j + 1)).map (·.fId)).map encI) := by rw [List.take_add_one, hx]; simpa using o2
      obtain ⟨b2, d2, rfl, q2, p2⟩ := o2.rowx
      repeat (any_goals (
        conv => whnf
        first
        | ((with_reducible refine BIF.dec ?_ ?_) <;> intro _)
        | ((with_reducible refine BIF.s ?_ ?_) <;> intro _)
        | (with_reducible refine NEXTK.normal ?_)
        | (with_reducible refine NEXTK.ret ?_)
        | (with_reducible refine NEXTK.exit ?_)
        | (with_reducible refine SEQ.plain ?_)
        | (with_reducible refine hK _ _ ?_)
        | ((with_reducible refine RUNL.agg (fun _ => ?_) ?_); (focus kernel_rfl))
        | (with_reducible refine RUNL.run ?_)
        | ((with_reducible refine AR.ok ?_ ?_); exact ⟨by first | omega | (dsimp only; omega), by first | omega | (dsimp only; omega)⟩)
        | (with_reducible refine AR.wr ?_)
        | ((with_reducible intro w3 e3); try have z3 := cutLe e3)
        | ((with_reducible intro h3); have h4 := Nat.le_of_lt h3; clear h4)))
      refine ⟨(j + 1, (b2, _, d2)), rfl, ⟨rfl, rfl, trivial⟩, rfl, rfl, ⟨by simp only; omega, ?_, o2, hsrt⟩, by simp only; omega⟩
      show w7.heap.size ≤ w2.heap.size
      omega
    · have hkj : j = zs.length := by simp only at hlt; omega
      rw [hkj, List.take_length, hids] at hown
      repeat (any_goals (
        conv => whnf
        first
        | ((with_reducible refine BIF.dec ?_ ?_) <;> intro _)
        | ((with_reducible refine BIF.s ?_ ?_) <;> intro _)
        | (with_reducible refine NEXTK.normal ?_)
        | (with_reducible refine NEXTK.ret ?_)
        | (with_reducible refine NEXTK.exit ?_)
        | (with_reducible refine SEQ.plain ?_)
        | (with_reducible refine hK _ _ ?_)
        | ((with_reducible refine RUNL.agg (fun _ => ?_) ?_); (focus kernel_rfl))
        | (with_reducible refine RUNL.run ?_)
        | ((with_reducible refine AR.ok ?_ ?_); exact ⟨by first | omega | (dsimp only; omega), by first | omega | (dsimp only; omega)⟩)
        | (with_reducible refine AR.wr ?_)
        | ((with_reducible intro w3 e3); try have z3 := cutLe e3)
        | ((with_reducible intro h3); have h4 := Nat.le_of_lt h3; clear h4)))
      intro hx'
      rw [hf]
      exact ⟨_, rfl, hx', _, rfl, hown.lo (by omega)⟩
  · have hf : hangingP xs d = ([], false) := by
      unfold hangingP
      rw [if_neg]
      simpa using ho
    repeat (any_goals (
      conv => whnf
      first
      | ((with_reducible refine callX (g := 36) ?_ ?_); kernel_rfl; intro hX; refine ⟨_, AreFrames_c _ _ _ xs _ (hr.ext hX (mAddr_Non _)) hn (by omega), ?_⟩; intro w4 e4; have z4 := cutLe e4)
      | ((with_reducible refine callF (g := 51) ?_ ?_); kernel_rfl; refine ⟨_, isDay_c _ _, ?_⟩; intro w4 e4; have z4 := cutLe e4)
      | ((exfalso; clear hK; simp_all <;> omega))
      | ((with_reducible refine BIF.dec ?_ ?_) <;> intro _)
      | ((with_reducible refine BIF.s ?_ ?_) <;> intro _)
      | (with_reducible refine NEXTK.normal ?_)
      | (with_reducible refine NEXTK.ret ?_)
      | (with_reducible refine NEXTK.exit ?_)
      | (with_reducible refine SEQ.plain ?_)
      | (with_reducible refine hK _ _ ?_)
      | ((with_reducible refine RUNL.agg (fun _ => ?_) ?_); (focus kernel_rfl))
      | (with_reducible refine RUNL.run ?_)
      | ((with_reducible refine AR.ok ?_ ?_); exact ⟨by first | omega | (dsimp only; omega), by first | omega | (dsimp only; omega)⟩)
      | (with_reducible refine AR.wr ?_)
      | ((with_reducible intro w3 e3); try have z3 := cutLe e3)
      | ((with_reducible intro h3); have h4 := Nat.le_of_lt h3; clear h4)))
    all_goals
      intro hx'
      rw [hf]
      exact ⟨_, rfl, hx', _, rfl, Own.nil _ _ _ _⟩

end Go.Proofs.YthgeeocmhdpgiaaDoor

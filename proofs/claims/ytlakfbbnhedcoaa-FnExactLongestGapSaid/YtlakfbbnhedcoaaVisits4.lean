/- The longest gap. -/
import Derived.Test.YtlakfbbnhedcoaaRows
import Derived.Test.YtlakfbbnhedcoaaVisits2
namespace Go.Proofs.Ytlakfbbnhedcoaa
open Go Go.X Go.Proofs Go.ChangeShapes Go.WideShapes Go.ChangeAt Go.RowKit
open Go.ChangeMaps (open_string shut_string)
set_option maxHeartbeats 1000000
set_option maxRecDepth 20000
set_option linter.unusedVariables false
set_option linter.unusedSimpArgs false
theorem CloneVis_c (a : Option Addr) (n c : Nat) (xs : List Vis) (w : World) (hr : Row w a 4 (xs.map encVis)) (hn : xs.length = n) (hm : n ≤ 1048577) :
    Calls Try.prog 40 #[.slice a n c] w fun e w' => ∃ r, e = .returned r ∧ E0 w w' ∧ Own w' w.heap.size 43 4 r (xs.map encVis) := by
  refine enterK Non 8 Try.func40 rfl rfl rfl fun K hK => ?_
  repeat (any_goals (
    conv => whnf
    first
    | ((with_reducible refine BIF.dec ?_ ?_) <;> intro _)
    | ((with_reducible refine BIF.s ?_ ?_) <;> intro _)
    | (with_reducible refine NEXTK.normal ?_)
    | (with_reducible refine NEXTK.ret ?_)
    | (with_reducible refine NEXTK.exit ?_)
    | (with_reducible refine SEQ.plain ?_)
    | (with_reducible refine hK _ _ ?_)
    | ((with_reducible refine AR.ok ?_ ?_); exact ⟨by first | omega | (dsimp only; omega), by first | omega | (dsimp only; omega)⟩)
    | (with_reducible refine AR.wr ?_)
    | ((with_reducible intro w3 e3); try have z3 := cutLe e3)
    | ((with_reducible intro h3); have h4 := Nat.le_of_lt h3; clear h4)))
  · intro hx
    rename_i h
    have : xs = [] := by
      cases a with
      | none =>
        cases xs with
        | nil => rfl
        | cons x r => exact absurd (hr.isSome (by simp)) (by simp)
      | some p => simp at h
    subst this
    exact ⟨_, rfl, hx, Own.nil _ _ _ _⟩
  · refine bsS elemVis [] rfl rfl (by simp) (by omega) (fun w1 e1 o1 => ?_)
    conv => whnf
    repeat (first | ((with_reducible refine NEXTK.normal ?_); conv => whnf) | ((with_reducible refine NEXTK.exit ?_); conv => whnf) | ((with_reducible refine NEXTK.ret ?_); conv => whnf) | ((with_reducible refine SEQ.plain ?_); conv => whnf) | ((with_reducible refine AR.ok ?_ ?_); exact ⟨by omega, by omega⟩; conv => whnf))
    refine apS elemVis o1 (hr.e0 e1) (by simpa using hn) (by intro l hl; obtain ⟨x, -, rfl⟩ := List.mem_map.1 hl; rfl) ⟨by simp; omega, by simp; omega⟩ ⟨Nat.le_refl _, e1.size⟩ trivial (fun v2 w2 x2 o2 => ?_)
    replace o2 : Own w2 w.heap.size 43 4 v2 (xs.map encVis) := by simpa using o2
    obtain ⟨b2, d2, rfl, q2, p2⟩ := o2.rowx
    repeat (any_goals (
      conv => whnf
      first
      | ((with_reducible refine BIF.dec ?_ ?_) <;> intro _)
      | ((with_reducible refine BIF.s ?_ ?_) <;> intro _)
      | (with_reducible refine NEXTK.normal ?_)
      | (with_reducible refine NEXTK.ret ?_)
      | (with_reducible refine NEXTK.exit ?_)
      | (with_reducible refine SEQ.plain ?_)
      | (with_reducible refine hK _ _ ?_)
      | ((with_reducible refine AR.ok ?_ ?_); exact ⟨by first | omega | (dsimp only; omega), by first | omega | (dsimp only; omega)⟩)
      | (with_reducible refine AR.wr ?_)
      | ((with_reducible intro w3 e3); try have z3 := cutLe e3)
      | ((with_reducible intro h3); have h4 := Nat.le_of_lt h3; clear h4)))
    intro hx
    exact ⟨_, rfl, hx, o2⟩
def gapStep (seat : Int) (s : Int × Int × Int) (x : Vis) : Int × Int × Int :=
  if x.fSeat = seat then ((if s.2.1 < x.fFrom - s.2.2 then (s.2.2, x.fFrom - s.2.2) else (s.1, s.2.1)).1, (if s.2.1 < x.fFrom - s.2.2 then (s.2.2, x.fFrom - s.2.2) else (s.1, s.2.1)).2, x.fUntil) else s
def gapUp (seat : Int) (xs : List Vis) : Int × Int × Int := xs.foldl (gapStep seat) (480, 0, 480)
theorem gapUp_at (seat : Int) {xs : List Vis} {k : Nat} {x : Vis} (h : xs[k]? = some x) : gapUp seat (xs.take (k + 1)) = gapStep seat (gapUp seat (xs.take k)) x := by
  unfold gapUp
  rw [List.take_add_one, h]; simp
theorem gapUp_bnd (seat : Int) {xs : List Vis} (h : ∀ x ∈ xs, okV x = true) : ∀ k, k ≤ xs.length → 480 ≤ (gapUp seat (xs.take k)).2.2 ∧ (gapUp seat (xs.take k)).2.2 ≤ 1200
  | 0, _ => by simp [gapUp]
  | k + 1, hk => by
    obtain ⟨x, hx⟩ : ∃ x, xs[k]? = some x := ⟨xs[k]'(by omega), by simp⟩
    have ih := gapUp_bnd seat h k (by omega)
    have h0 := okV_spec (h x (List.mem_of_getElem? hx))
    rw [gapUp_at seat hx]
    unfold gapStep
    split
    · simp only; omega
    · exact ih
def gapP (xs : List Vis) (seat : Int) : Int × Int × Bool :=
  if areV xs && inB seat 1 6 then ((gapUp seat (xs ++ [⟨0, seat, 1200, 0⟩])).1, (gapUp seat (xs ++ [⟨0, seat, 1200, 0⟩])).2.1, true) else (0, 0, false)
theorem LongestGap_c (a : Option Addr) (n c : Nat) (xs : List Vis) (seat : Int) (w : World) (hr : Row w a 4 (xs.map encVis)) (hn : xs.length = n) (hm : n ≤ 1048577) (hc : n ≤ c ∧ c < 9223372036854775808) :
    Calls Try.prog 18 #[.slice a n c, .int .i64 seat] w fun e w' => e = .returned (.tuple #[.int .i64 (gapP xs seat).1, .int .i64 (gapP xs seat).2.1, .bool (gapP xs seat).2.2]) ∧ E0 w w' := by
  refine enterK Non 51 Try.func18 rfl rfl rfl fun K hK => ?_
  by_cases ho : areV xs = true ∧ inB seat 1 6 = true
  · have hl := areV_len ho.1
    repeat (any_goals (
      conv => whnf
      first
      | ((with_reducible refine callF (g := 11) ?_ ?_); kernel_rfl; refine ⟨_, AreVisits_c _ _ _ xs _ (by repeat (first | assumption | refine Row.e0 ?_ (by assumption))) hn (by omega) hc, ?_⟩; intro w4 e4; have z4 := cutLe e4)
      | ((with_reducible refine callF (g := 39) ?_ ?_); kernel_rfl; refine ⟨_, isSeat_c _ _, ?_⟩; intro w4 e4; have z4 := cutLe e4)
      | ((exfalso; clear hK; simp_all <;> omega))
      | ((with_reducible refine RUN.mk (v := .agg (encVis ⟨0, seat, 1200, 0⟩).toArray) (fun _ => ?_) ?_); (focus kernel_rfl))
      | ((with_reducible refine callY (g := 40) ?_ ?_); kernel_rfl; refine ⟨_, fun x => CloneVis_c _ _ _ xs _ (hr.ext x (mAddr_Non _)) hn (by omega), ?_⟩; intro r5 w5 e5 oC; have z5 := cutLe e5; have oL := fun k h => oC.block (k := k) h; obtain ⟨b5, d5, rfl, q5, p5⟩ := oC.rowx; replace oC := oC.lo (lo' := w.heap.size) (by omega); try replace oB := oB.e0 e5)
      | ((with_reducible refine bsS elemVis [.agg (encVis ⟨0, seat, 1200, 0⟩).toArray] ?_ ?_ ?_ ?_ ?_); (focus rfl); (focus rfl); (focus (intro v hv; simp at hv; subst hv; rfl)); (focus omega); intro w9 e9 oB; have z9 := cutLe e9; try replace oC := oC.e0 e9)
      | ((with_reducible refine BIF.dec ?_ ?_) <;> intro _)
      | ((with_reducible refine BIF.s ?_ ?_) <;> intro _)
      | (with_reducible refine NEXTK.normal ?_)
      | (with_reducible refine NEXTK.ret ?_)
      | (with_reducible refine NEXTK.exit ?_)
      | (with_reducible refine SEQ.plain ?_)
      | (with_reducible refine hK _ _ ?_)
      | ((with_reducible refine AR.ok ?_ ?_); exact ⟨by first | omega | (dsimp only; omega), by first | omega | (dsimp only; omega)⟩)
      | (with_reducible refine AR.wr ?_)
      | ((with_reducible intro w3 e3); try have z3 := cutLe e3)
      | ((with_reducible intro h3); have h4 := Nat.le_of_lt h3; clear h4)))
    all_goals
      conv => whnf
      refine apS (ns := [encVis ⟨0, seat, 1200, 0⟩]) elemVis oC oB.row.1 rfl (by intro l hl; simp at hl; subst hl; rfl) ⟨by simp; omega, by simp; omega⟩ ⟨(by show w.heap.size ≤ _; omega), by omega⟩ trivial (fun v2 w2 x2 o2 => ?_)
      have z2 := cutLe x2
      obtain ⟨ys, hys⟩ : ∃ ys, ys = xs ++ [(⟨0, seat, 1200, 0⟩ : Vis)] := ⟨_, rfl⟩
      have hf : gapP xs seat = ((gapUp seat ys).1, (gapUp seat ys).2.1, true) := by rw [hys]; simp [gapP, ho]
      have hyl : ys.length = n + 1 := by rw [hys]; simp; omega
      replace o2 : Own w2 w.heap.size 43 4 v2 (ys.map encVis) := by rw [hys]; simpa using o2
      obtain ⟨b2, d2, rfl, q2, p2⟩ := o2.rowx
      repeat (any_goals (
        conv => whnf
        first
        | (with_reducible refine And.intro ?_ ?_)
        | (exact True.intro)
        | ((with_reducible refine BIF.dec ?_ ?_) <;> intro _)
        | ((with_reducible refine BIF.s ?_ ?_) <;> intro _)
        | (with_reducible refine NEXTK.normal ?_)
        | (with_reducible refine NEXTK.ret ?_)
        | (with_reducible refine NEXTK.exit ?_)
        | (with_reducible refine SEQ.plain ?_)
        | (with_reducible refine hK _ _ ?_)
        | ((with_reducible refine AR.ok ?_ ?_); exact ⟨by first | omega | (dsimp only; omega), by first | omega | (dsimp only; omega)⟩)
        | (with_reducible refine AR.wr ?_)
        | ((with_reducible intro w3 e3); try have z3 := cutLe e3)
        | ((with_reducible intro h3); have h4 := Nat.le_of_lt h3; clear h4)))
      conv => whnf
      refine LOOP.mk (Nat × (Int × Int × Int)) (fun g => [(27, .v (.int .i64 g.1)), (7, .v (.int .i64 g.2.1)), (8, .v (.int .i64 g.2.2.1)), (9, .v (.int .i64 g.2.2.2))])
        (fun g wr => g.1 ≤ n + 1 ∧ g.2 = gapUp seat (ys.take g.1) ∧ Own wr w.heap.size 43 4 (.slice b2 ys.length d2) (ys.map encVis)) (fun g => n + 1 - g.1) (0, (480, 0, 480)) rfl ⟨rfl, rfl, rfl, rfl, trivial⟩ ⟨Nat.zero_le _, rfl, by repeat (first | exact o2 | refine Own.e0 ?_ (by assumption))⟩ ?_
      rintro ⟨j, best, most, from'⟩ wr - ⟨hj, hs', hown⟩
      simp only at hj hs' hown
      have oL := fun k h => hown.block (k := k) h
      conv => whnf
      repeat (first | ((with_reducible refine NEXTK.normal ?_); conv => whnf) | ((with_reducible refine NEXTK.exit ?_); conv => whnf) | ((with_reducible refine NEXTK.ret ?_); conv => whnf) | ((with_reducible refine SEQ.plain ?_); conv => whnf) | ((with_reducible refine AR.ok ?_ ?_); exact ⟨by omega, by omega⟩; conv => whnf))
      refine BIF.dec (fun hlt => ?_) (fun hlt => ?_)
      · have hlt' : j < ys.length := by simp only at hlt; omega
        have his := hown.row.1.isSome (by simp; omega)
        obtain ⟨x, hx⟩ : ∃ x, ys[j]? = some x := ⟨ys[j]'(by omega), by simp⟩
        have ht := gapUp_at seat hx
        have hb := gapUp_bnd seat (areV_ok ho.1) j (by omega)
        have etk : ys.take j = xs.take j := by rw [hys, List.take_append_of_le_length (by omega)]
        rw [← etk, ← hs'] at hb
        simp only at hb
        have hxb : 480 ≤ x.fFrom ∧ x.fFrom ≤ 1200 := by
          rcases Nat.lt_or_ge j n with h | h
          · have : xs[j]? = some x := by rw [← hx, hys, List.getElem?_append_left (by omega)]
            have := okV_spec (areV_at ho.1 this)
            omega
          · have : x = ⟨0, seat, 1200, 0⟩ := by
              rw [hys, List.getElem?_append_right (by omega), show j - xs.length = 0 from by omega] at hx
              simpa using hx.symm
            rw [this]; simp
        rw [← hs'] at ht
        repeat (any_goals (
          conv => whnf
          first
          | ((with_reducible refine OBL.mk ?_ (fun _ => ?_)); exact ⟨by omega, by omega, his⟩)
          | ((with_reducible refine ELD.atNow (enc := encVis) (xs := ys) (j) hown.row.1 ?_ ?_ (fun x' hx' => ?_)); (first | rfl | omega); omega; obtain rfl : x = x' := by (rw [hx] at hx'; exact Option.some.inj hx'))
          | ((with_reducible intro w3 e3); have z3 := cutLe e3; replace hown := hown.ext e3 (by first | exact fun _ _ h => h | (intro k hk h; have hh := oL k hk; simp only [bk] at h; omega)))
          | ((with_reducible refine DRAW.quiet ?_ ?_ ?_); kernel_rfl; kernel_rfl)
          | ((with_reducible refine BIF.bne ?_ ?_) <;> intro hs1)
          | ((with_reducible refine BIF.dec ?_ ?_) <;> intro hs2)
          | ((with_reducible refine BIF.dec ?_ ?_) <;> intro _)
          | ((with_reducible refine BIF.s ?_ ?_) <;> intro _)
          | (with_reducible refine NEXTK.normal ?_)
          | (with_reducible refine NEXTK.ret ?_)
          | (with_reducible refine NEXTK.exit ?_)
          | (with_reducible refine SEQ.plain ?_)
          | (with_reducible refine hK _ _ ?_)
          | ((with_reducible refine AR.ok ?_ ?_); exact ⟨by first | omega | (dsimp only; omega), by first | omega | (dsimp only; omega)⟩)
          | (with_reducible refine AR.wr ?_)
          | ((with_reducible intro w3 e3); try have z3 := cutLe e3)
          | ((with_reducible intro h3); have h4 := Nat.le_of_lt h3; clear h4)))
        all_goals
          refine ⟨(j + 1, gapStep seat (best, most, from') x), rfl, ⟨rfl, congrArg (fun z => TV.v (Value.int IntKind.i64 z)) ?_, congrArg (fun z => TV.v (Value.int IntKind.i64 z)) ?_, congrArg (fun z => TV.v (Value.int IntKind.i64 z)) ?_, trivial⟩, rfl, rfl, ⟨by simp only; omega, ht.symm, hown⟩, by simp only; omega⟩
          all_goals
            clear hK
            simp only [gapStep]
            first
            | rw [if_neg hs1]
            | (dsimp only at hs2; rw [if_pos hs1, if_pos hs2])
            | (dsimp only at hs2; rw [if_pos hs1, if_neg hs2])
            | rw [if_pos hs1]
      · have hkj : j = ys.length := by simp only at hlt; omega
        rw [hkj, List.take_length] at hs'
        repeat (any_goals (
          conv => whnf
          first
          | ((with_reducible refine BIF.dec ?_ ?_) <;> intro _)
          | ((with_reducible refine BIF.s ?_ ?_) <;> intro _)
          | (with_reducible refine NEXTK.normal ?_)
          | (with_reducible refine NEXTK.ret ?_)
          | (with_reducible refine NEXTK.exit ?_)
          | (with_reducible refine SEQ.plain ?_)
          | (with_reducible refine hK _ _ ?_)
          | ((with_reducible refine AR.ok ?_ ?_); exact ⟨by first | omega | (dsimp only; omega), by first | omega | (dsimp only; omega)⟩)
          | (with_reducible refine AR.wr ?_)
          | ((with_reducible intro w3 e3); try have z3 := cutLe e3)
          | ((with_reducible intro h3); have h4 := Nat.le_of_lt h3; clear h4)))
        intro hx
        refine ⟨?_, hx⟩
        rw [hf, ← hs']; rfl
  · have hf : gapP xs seat = (0, 0, false) := by
      unfold gapP
      rw [if_neg]
      simpa using ho
    repeat (any_goals (
      conv => whnf
      first
      | ((with_reducible refine callF (g := 11) ?_ ?_); kernel_rfl; refine ⟨_, AreVisits_c _ _ _ xs _ (by repeat (first | assumption | refine Row.e0 ?_ (by assumption))) hn (by omega) hc, ?_⟩; intro w4 e4; have z4 := cutLe e4)
      | ((with_reducible refine callF (g := 39) ?_ ?_); kernel_rfl; refine ⟨_, isSeat_c _ _, ?_⟩; intro w4 e4; have z4 := cutLe e4)
      | ((exfalso; clear hK; simp_all <;> omega))
      | ((with_reducible refine BIF.dec ?_ ?_) <;> intro _)
      | ((with_reducible refine BIF.s ?_ ?_) <;> intro _)
      | (with_reducible refine NEXTK.normal ?_)
      | (with_reducible refine NEXTK.ret ?_)
      | (with_reducible refine NEXTK.exit ?_)
      | (with_reducible refine SEQ.plain ?_)
      | (with_reducible refine hK _ _ ?_)
      | ((with_reducible refine AR.ok ?_ ?_); exact ⟨by first | omega | (dsimp only; omega), by first | omega | (dsimp only; omega)⟩)
      | (with_reducible refine AR.wr ?_)
      | ((with_reducible intro w3 e3); try have z3 := cutLe e3)
      | ((with_reducible intro h3); have h4 := Nat.le_of_lt h3; clear h4)))
    all_goals
      intro hx'
      rw [hf]
      exact ⟨rfl, hx'⟩
theorem LongestGapS_c (a : Option Addr) (n c : Nat) (xs : List Vis) (seat : Int) (w : World) (hr : Row w a 4 (xs.map encVis)) (hn : xs.length = n) (hm : n ≤ 1048577) :
    Calls Try.prog 17 #[.slice a n c, .int .i64 seat] w fun e w' => e = .returned (.tuple #[.int .i64 (gapP xs seat).1, .int .i64 (gapP xs seat).2.1, .bool (gapP xs seat).2.2]) ∧ E0 w w' := by
  refine enterK Non 60 Try.func17 rfl rfl rfl fun K hK => ?_
  by_cases ho : areV xs = true ∧ inB seat 1 6 = true
  · have hl := areV_len ho.1
    have hf : gapP xs seat = ((gapStep seat (gapUp seat xs) ⟨0, seat, 1200, 0⟩).1, (gapStep seat (gapUp seat xs) ⟨0, seat, 1200, 0⟩).2.1, true) := by simp [gapP, ho, gapUp]
    repeat (any_goals (
      conv => whnf
      first
      | ((with_reducible refine callF (g := 25) ?_ ?_); kernel_rfl; refine ⟨_, l30Good_c _ _ _ xs _ (by repeat (first | assumption | refine Row.e0 ?_ (by assumption))) hn (by omega), ?_⟩; intro w4 e4; have z4 := cutLe e4)
      | ((with_reducible refine callF (g := 38) ?_ ?_); kernel_rfl; refine ⟨_, l30Seat_c _ _, ?_⟩; intro w4 e4; have z4 := cutLe e4)
      | ((exfalso; clear hK; simp_all <;> omega))
      | ((with_reducible refine BIF.dec ?_ ?_) <;> intro _)
      | ((with_reducible refine BIF.s ?_ ?_) <;> intro _)
      | (with_reducible refine NEXTK.normal ?_)
      | (with_reducible refine NEXTK.ret ?_)
      | (with_reducible refine NEXTK.exit ?_)
      | (with_reducible refine SEQ.plain ?_)
      | (with_reducible refine hK _ _ ?_)
      | ((with_reducible refine AR.ok ?_ ?_); exact ⟨by first | omega | (dsimp only; omega), by first | omega | (dsimp only; omega)⟩)
      | (with_reducible refine AR.wr ?_)
      | ((with_reducible intro w3 e3); try have z3 := cutLe e3)
      | ((with_reducible intro h3); have h4 := Nat.le_of_lt h3; clear h4)))
    conv => whnf
    refine LOOP.mk (Nat × (Int × Int × Int)) (fun g => [(10, .v (.int .i64 g.1)), (7, .v (.int .i64 g.2.1)), (8, .v (.int .i64 g.2.2.1)), (9, .v (.int .i64 g.2.2.2))])
      (fun g wr => g.1 ≤ n ∧ g.2 = gapUp seat (xs.take g.1)) (fun g => n - g.1) (0, (480, 0, 480)) rfl ⟨rfl, rfl, rfl, rfl, trivial⟩ ⟨Nat.zero_le _, rfl⟩ ?_
    rintro ⟨j, best, most, from'⟩ wr - ⟨hj, hs'⟩
    simp only at hj hs'
    have hb := gapUp_bnd seat (areV_ok ho.1) j (by omega)
    rw [← hs'] at hb
    simp only at hb
    conv => whnf
    repeat (first | ((with_reducible refine NEXTK.normal ?_); conv => whnf) | ((with_reducible refine NEXTK.exit ?_); conv => whnf) | ((with_reducible refine NEXTK.ret ?_); conv => whnf) | ((with_reducible refine SEQ.plain ?_); conv => whnf) | ((with_reducible refine AR.ok ?_ ?_); exact ⟨by omega, by omega⟩; conv => whnf))
    refine BIF.dec (fun hlt => ?_) (fun hlt => ?_)
    · have hlt' : j < xs.length := by simp only at hlt; omega
      have his := hr.isSome (by simp; omega)
      obtain ⟨x, hx⟩ : ∃ x, xs[j]? = some x := ⟨xs[j]'(by omega), by simp⟩
      have ht := gapUp_at seat hx
      have hxb := okV_spec (areV_at ho.1 hx)
      rw [← hs'] at ht
      repeat (any_goals (
        conv => whnf
        first
        | ((with_reducible refine OBL.mk ?_ (fun _ => ?_)); exact ⟨by omega, by omega, his⟩)
        | ((with_reducible refine ELD.at (j) hr ?_ ?_ ?_ (fun x' hx' => ?_)); exact mAddr_Non _; (first | rfl | omega); exact hlt'; obtain rfl : x = x' := by (rw [hx] at hx'; exact Option.some.inj hx'))
        | ((with_reducible refine DRAW.quiet ?_ ?_ ?_); kernel_rfl; kernel_rfl)
        | ((with_reducible refine BIF.bne ?_ ?_) <;> intro hs1)
        | ((with_reducible refine BIF.dec ?_ ?_) <;> intro hs2)
        | ((with_reducible refine BIF.dec ?_ ?_) <;> intro _)
        | ((with_reducible refine BIF.s ?_ ?_) <;> intro _)
        | (with_reducible refine NEXTK.normal ?_)
        | (with_reducible refine NEXTK.ret ?_)
        | (with_reducible refine NEXTK.exit ?_)
        | (with_reducible refine SEQ.plain ?_)
        | (with_reducible refine hK _ _ ?_)
        | ((with_reducible refine AR.ok ?_ ?_); exact ⟨by first | omega | (dsimp only; omega), by first | omega | (dsimp only; omega)⟩)
        | (with_reducible refine AR.wr ?_)
        | ((with_reducible intro w3 e3); try have z3 := cutLe e3)
        | ((with_reducible intro h3); have h4 := Nat.le_of_lt h3; clear h4)))
      all_goals
        refine ⟨(j + 1, gapStep seat (best, most, from') x), rfl, ⟨rfl, congrArg (fun z => TV.v (Value.int IntKind.i64 z)) ?_, congrArg (fun z => TV.v (Value.int IntKind.i64 z)) ?_, congrArg (fun z => TV.v (Value.int IntKind.i64 z)) ?_, trivial⟩, rfl, rfl, ⟨by simp only; omega, ht.symm⟩, by simp only; omega⟩
        all_goals
          clear hK
          simp only [gapStep]
          first
          | rw [if_neg hs1]
          | (dsimp only at hs2; rw [if_pos hs1, if_pos hs2])
          | (dsimp only at hs2; rw [if_pos hs1, if_neg hs2])
          | rw [if_pos hs1]
    · have hkj : j = xs.length := by simp only at hlt; omega
      rw [hkj, List.take_length] at hs'
      repeat (any_goals (
        conv => whnf
        first
        | ((with_reducible refine BIF.dec ?_ ?_) <;> intro _)
        | ((with_reducible refine BIF.s ?_ ?_) <;> intro _)
        | (with_reducible refine NEXTK.normal ?_)
        | (with_reducible refine NEXTK.ret ?_)
        | (with_reducible refine NEXTK.exit ?_)
        | (with_reducible refine SEQ.plain ?_)
        | (with_reducible refine hK _ _ ?_)
        | ((with_reducible refine AR.ok ?_ ?_); exact ⟨by first | omega | (dsimp only; omega), by first | omega | (dsimp only; omega)⟩)
        | (with_reducible refine AR.wr ?_)
        | ((with_reducible intro w3 e3); try have z3 := cutLe e3)
        | ((with_reducible intro h3); have h4 := Nat.le_of_lt h3; clear h4)))
      all_goals
        rename_i hc
        intro hx
        refine ⟨?_, hx⟩
        dsimp only at hc
        rw [hf, ← hs']
        simp [resV, gapStep, hc]
  · have hf : gapP xs seat = (0, 0, false) := by
      unfold gapP
      rw [if_neg]
      simpa using ho
    repeat (any_goals (
      conv => whnf
      first
      | ((with_reducible refine callF (g := 25) ?_ ?_); kernel_rfl; refine ⟨_, l30Good_c _ _ _ xs _ (by repeat (first | assumption | refine Row.e0 ?_ (by assumption))) hn (by omega), ?_⟩; intro w4 e4; have z4 := cutLe e4)
      | ((with_reducible refine callF (g := 38) ?_ ?_); kernel_rfl; refine ⟨_, l30Seat_c _ _, ?_⟩; intro w4 e4; have z4 := cutLe e4)
      | ((exfalso; clear hK; simp_all <;> omega))
      | ((with_reducible refine BIF.dec ?_ ?_) <;> intro _)
      | ((with_reducible refine BIF.s ?_ ?_) <;> intro _)
      | (with_reducible refine NEXTK.normal ?_)
      | (with_reducible refine NEXTK.ret ?_)
      | (with_reducible refine NEXTK.exit ?_)
      | (with_reducible refine SEQ.plain ?_)
      | (with_reducible refine hK _ _ ?_)
      | ((with_reducible refine AR.ok ?_ ?_); exact ⟨by first | omega | (dsimp only; omega), by first | omega | (dsimp only; omega)⟩)
      | (with_reducible refine AR.wr ?_)
      | ((with_reducible intro w3 e3); try have z3 := cutLe e3)
      | ((with_reducible intro h3); have h4 := Nat.le_of_lt h3; clear h4)))
    all_goals
      intro hx'
      rw [hf]
      exact ⟨rfl, hx'⟩

end Go.Proofs.Ytlakfbbnhedcoaa

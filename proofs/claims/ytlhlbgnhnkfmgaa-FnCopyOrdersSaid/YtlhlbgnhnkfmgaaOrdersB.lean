/- OrdersOf. -/
import Derived.Test.YtlhlbgnhnkfmgaaRows
import Derived.Test.YtlhlbgnhnkfmgaaOrders8
namespace Go.Proofs.Ytlhlbgnhnkfmgaa
open Go Go.X Go.Proofs Go.ChangeShapes Go.WideShapes Go.ChangeAt Go.RowKit
open Go.ChangeMaps (open_string shut_string)
set_option maxHeartbeats 1000000
set_option maxRecDepth 20000
set_option linter.unusedVariables false
set_option linter.unusedSimpArgs false
def idsOf (r : Int) (xs : List Ord) : List Int := (xs.filter fun x => decide (x.fReader = r)).map (·.fId)
def costOf (r : Int) : List Ord → Int
  | [] => 0
  | x :: t => (if x.fReader = r then price x else 0) + costOf r t
theorem costOf_append (r : Int) (xs ys : List Ord) : costOf r (xs ++ ys) = costOf r xs + costOf r ys := by
  induction xs with
  | nil => simp [costOf]
  | cons x t ih => simp [costOf, ih]; omega
theorem costOf_take (r : Int) {xs : List Ord} {k : Nat} {x : Ord} (h : xs[k]? = some x) : costOf r (xs.take (k + 1)) = costOf r (xs.take k) + (if x.fReader = r then price x else 0) := by
  rw [List.take_add_one, h, costOf_append]; simp [costOf]
theorem idsOf_take (r : Int) {xs : List Ord} {k : Nat} {x : Ord} (h : xs[k]? = some x) : idsOf r (xs.take (k + 1)) = idsOf r (xs.take k) ++ (if x.fReader = r then [x.fId] else []) := by
  rw [List.take_add_one, h]
  simp only [idsOf, Option.toList_some, List.filter_append, List.map_append]
  congr 1
  by_cases hx : x.fReader = r <;> simp [hx]
theorem idsOf_len (r : Int) (xs : List Ord) : (idsOf r xs).length ≤ xs.length := by
  simp [idsOf, List.length_filter_le]
theorem price_bnd {x : Ord} (h : 1 ≤ x.fPages ∧ x.fPages ≤ 50) : 0 ≤ price x ∧ price x ≤ 440 := by
  unfold price; omega
def ordersP (xs : List Ord) (r : Int) : List Int × Int × Bool := if areO xs && inB r 1 999 then (idsOf r xs, costOf r xs, true) else ([], 0, false)
theorem ordersP_len (xs : List Ord) (r : Int) : (ordersP xs r).1.length ≤ xs.length := by
  unfold ordersP
  split
  · exact idsOf_len r xs
  · simp
theorem OrdersOf_c (a : Option Addr) (n c : Nat) (xs : List Ord) (r : Int) (w : World) (hr : Row w a 5 (xs.map encOrd)) (hn : xs.length = n) (hm : n ≤ 1048577) :
    Calls Try.prog 11 #[.slice a n c, .int .i64 r] w fun e w' => ∃ v, e = .returned v ∧ E0 w w' ∧ ∃ s, v = .tuple #[s, .int .i64 (ordersP xs r).2.1, .bool (ordersP xs r).2.2] ∧ Own w' w.heap.size 3 1 s ((ordersP xs r).1.map encI) := by
  refine enterK Non 41 Try.func11 rfl rfl rfl fun K hK => ?_
  by_cases ho : areO xs = true ∧ inB r 1 999 = true
  · have hf : ordersP xs r = (idsOf r xs, costOf r xs, true) := by simp [ordersP, ho]
    have hl := areO_len ho.1
    repeat (any_goals (
      conv => whnf
      first
      | ((with_reducible refine callF (g := 22) ?_ ?_); kernel_rfl; refine ⟨_, AreOrders_c _ _ _ xs _ (by repeat (first | assumption | refine Row.e0 ?_ (by assumption))) hn (by omega), ?_⟩; intro w4 e4; have z4 := cutLe e4)
      | ((with_reducible refine callF (g := 34) ?_ ?_); kernel_rfl; refine ⟨_, isId_c _ _, ?_⟩; intro w4 e4; have z4 := cutLe e4)
      | ((exfalso; simp_all; done))
      | ((intro hx; exfalso; simp_all; done))
      | ((with_reducible refine BIF.dec ?_ ?_) <;> intro _)
      | ((with_reducible refine BIF.s ?_ ?_) <;> intro _)
      | (with_reducible refine NEXTK.normal ?_)
      | (with_reducible refine NEXTK.ret ?_)
      | (with_reducible refine NEXTK.exit ?_)
      | (with_reducible refine SEQ.plain ?_)
      | (with_reducible refine hK _ _ ?_)
      | ((with_reducible refine RUNL.agg (fun _ => ?_) ?_); (focus kernel_rfl))
      | (with_reducible refine RUNL.run ?_)
      | ((with_reducible refine AR.ok ?_ ?_); exact ⟨by first | omega | (dsimp only; omega), by first | omega | (dsimp only; omega)⟩)
      | (with_reducible refine AR.wr ?_)
      | ((with_reducible intro w3 e3); try have z3 := cutLe e3)
      | ((with_reducible intro h3); have h4 := Nat.le_of_lt h3; clear h4)))
    all_goals
      refine LOOP.mk (Nat × (Option Addr × Nat × Nat) × Int) (fun g => [(21, .v (.int .i64 g.1)), (7, .v (.slice g.2.1.1 g.2.1.2.1 g.2.1.2.2)), (8, .v (.int .i64 g.2.2))])
        (fun g wr => g.1 ≤ n ∧ w.heap.size ≤ wr.heap.size ∧ g.2.2 = costOf r (xs.take g.1) ∧ (0 ≤ g.2.2 ∧ g.2.2 ≤ 440 * g.1) ∧ Own wr w.heap.size 3 1 (.slice g.2.1.1 g.2.1.2.1 g.2.1.2.2) ((idsOf r (xs.take g.1)).map encI)) (fun g => n - g.1) (0, (none, 0, 0), 0) rfl ⟨rfl, rfl, rfl, trivial⟩ ⟨Nat.zero_le _, by show w.heap.size ≤ w4.heap.size; omega, by simp [costOf], by simp, Own.nil _ _ _ _⟩ ?_
      rintro ⟨j, ⟨b, m, d⟩, s⟩ wr - ⟨hj, hz, hs', hb, hown⟩
      simp only at hj hs' hz hb hown
      have oL := fun k h => hown.block (k := k) h
      have hml := hown.row.2
      conv => whnf
      repeat (first | ((with_reducible refine NEXTK.normal ?_); conv => whnf) | ((with_reducible refine NEXTK.exit ?_); conv => whnf) | ((with_reducible refine NEXTK.ret ?_); conv => whnf) | ((with_reducible refine SEQ.plain ?_); conv => whnf) | ((with_reducible refine AR.ok ?_ ?_); exact ⟨by omega, by omega⟩; conv => whnf))
      refine BIF.dec (fun hlt => ?_) (fun hlt => ?_)
      · have hlt' : j < xs.length := by omega
        have his := hr.isSome (by simp; omega)
        obtain ⟨x, hx⟩ : ∃ x, xs[j]? = some x := ⟨xs[j]'(by omega), by simp⟩
        have hx2 := (areO_pages ho.1).2 x (List.mem_of_getElem? hx)
        have hp2 := price_bnd hx2
        have ht := costOf_take r hx
        have ht2 := idsOf_take r hx
        have hil := idsOf_len r (xs.take j)
        have hil2 : (idsOf r (xs.take j)).length ≤ 12 := by simp at hil; omega
        by_cases hxr : x.fReader = r
        · repeat (any_goals (
            conv => whnf
            first
            | ((with_reducible refine OBL.mk ?_ (fun _ => ?_)); exact ⟨by first | omega | (dsimp only; omega), by first | omega | (dsimp only; omega), his⟩)
            | ((with_reducible refine ELD.at (j) hr ?_ ?_ ?_ (fun x' hx' => ?_)); exact mAddr_Non _; (first | rfl | omega); exact hlt'; obtain rfl : x = x' := by (rw [hx] at hx'; exact Option.some.inj hx'))
            | ((with_reducible intro w3 e3); have z3 := cutLe e3; replace hown := hown.ext e3 (by first | exact fun _ _ h => h | (intro k hk h; have hh := oL k hk; simp only [bk] at h; omega)))
            | ((with_reducible refine BIF.beq ?_ ?_) <;> intro _)
            | ((exfalso; omega))
            | ((with_reducible refine bsS elemI [.int .i64 x.fId] ?_ ?_ ?_ ?_ ?_); (focus rfl); (focus rfl); (focus (intro v hv; simp at hv; subst hv; rfl)); (focus omega); intro w9 e9 oB; have z9 := cutLe e9; try replace oC := oC.e0 e9)
            | ((with_reducible intro w3 e3); have z3 := cutLe e3; replace hown := hown.e0 e3)
            | ((with_reducible refine BIF.dec ?_ ?_) <;> intro _)
            | ((with_reducible refine BIF.s ?_ ?_) <;> intro _)
            | (with_reducible refine NEXTK.normal ?_)
            | (with_reducible refine NEXTK.ret ?_)
            | (with_reducible refine NEXTK.exit ?_)
            | (with_reducible refine SEQ.plain ?_)
            | (with_reducible refine hK _ _ ?_)
            | ((with_reducible refine RUNL.agg (fun _ => ?_) ?_); (focus kernel_rfl))
            | (with_reducible refine RUNL.run ?_)
            | ((with_reducible refine AR.ok ?_ ?_); exact ⟨by first | omega | (dsimp only; omega), by first | omega | (dsimp only; omega)⟩)
            | (with_reducible refine AR.wr ?_)
            | ((with_reducible intro w3 e3); try have z3 := cutLe e3)
            | ((with_reducible intro h3); have h4 := Nat.le_of_lt h3; clear h4)))
          conv => whnf
          replace hown := hown.e0 e9
          refine apS (ns := [encI x.fId]) elemI hown oB.row.1 rfl (by intro l hl; simp at hl; subst hl; rfl) ⟨by simp; omega, by simp; omega⟩ ⟨(by show w.heap.size ≤ _; omega), by omega⟩ ⟨fun h => by have := (oL _ h).2; dsimp only at this; omega, trivial⟩ (fun v2 w2 x2 o2 => ?_)
          have z2 := cutLe x2
          replace o2 : Own w2 w.heap.size 3 1 v2 ((idsOf r (xs.take (j + 1))).map encI) := by rw [ht2, if_pos hxr]; simpa using o2
          obtain ⟨b2, d2, rfl, q2, p2⟩ := o2.rowx
          repeat (any_goals (
            conv => whnf
            first
            | ((with_reducible refine callF (g := 35) ?_ ?_); kernel_rfl; refine ⟨_, cost_c _ _ hx2, ?_⟩; intro w4 e4; have z4 := cutLe e4)
            | ((with_reducible refine BIF.dec ?_ ?_) <;> intro _)
            | ((with_reducible refine BIF.s ?_ ?_) <;> intro _)
            | (with_reducible refine NEXTK.normal ?_)
            | (with_reducible refine NEXTK.ret ?_)
            | (with_reducible refine NEXTK.exit ?_)
            | (with_reducible refine SEQ.plain ?_)
            | (with_reducible refine hK _ _ ?_)
            | ((with_reducible refine RUNL.agg (fun _ => ?_) ?_); (focus kernel_rfl))
            | (with_reducible refine RUNL.run ?_)
            | ((with_reducible refine AR.ok ?_ ?_); exact ⟨by first | omega | (dsimp only; omega), by first | omega | (dsimp only; omega)⟩)
            | (with_reducible refine AR.wr ?_)
            | ((with_reducible intro w3 e3); try have z3 := cutLe e3)
            | ((with_reducible intro h3); have h4 := Nat.le_of_lt h3; clear h4)))
          refine ⟨(j + 1, (b2, _, d2), _), rfl, ⟨rfl, rfl, rfl, trivial⟩, rfl, rfl, ⟨by omega, ?_, ?_, ?_, ?_⟩, by omega⟩
          · show w.heap.size ≤ w4.heap.size
            omega
          · rw [ht, if_pos hxr, hs']
          · simp only; omega
          · exact o2.e0 e4
        · repeat (any_goals (
            conv => whnf
            first
            | ((with_reducible refine OBL.mk ?_ (fun _ => ?_)); exact ⟨by first | omega | (dsimp only; omega), by first | omega | (dsimp only; omega), his⟩)
            | ((with_reducible refine ELD.at (j) hr ?_ ?_ ?_ (fun x' hx' => ?_)); exact mAddr_Non _; (first | rfl | omega); exact hlt'; obtain rfl : x = x' := by (rw [hx] at hx'; exact Option.some.inj hx'))
            | ((with_reducible intro w3 e3); have z3 := cutLe e3; replace hown := hown.ext e3 (by first | exact fun _ _ h => h | (intro k hk h; have hh := oL k hk; simp only [bk] at h; omega)))
            | ((with_reducible refine BIF.beq ?_ ?_) <;> intro _)
            | ((exfalso; omega))
            | ((with_reducible refine BIF.dec ?_ ?_) <;> intro _)
            | ((with_reducible refine BIF.s ?_ ?_) <;> intro _)
            | (with_reducible refine NEXTK.normal ?_)
            | (with_reducible refine NEXTK.ret ?_)
            | (with_reducible refine NEXTK.exit ?_)
            | (with_reducible refine SEQ.plain ?_)
            | (with_reducible refine hK _ _ ?_)
            | ((with_reducible refine RUNL.agg (fun _ => ?_) ?_); (focus kernel_rfl))
            | (with_reducible refine RUNL.run ?_)
            | ((with_reducible refine AR.ok ?_ ?_); exact ⟨by first | omega | (dsimp only; omega), by first | omega | (dsimp only; omega)⟩)
            | (with_reducible refine AR.wr ?_)
            | ((with_reducible intro w3 e3); try have z3 := cutLe e3)
            | ((with_reducible intro h3); have h4 := Nat.le_of_lt h3; clear h4)))
          refine ⟨(j + 1, (b, m, d), s), rfl, ⟨rfl, rfl, rfl, trivial⟩, rfl, rfl, ⟨by omega, ?_, ?_, ?_, ?_⟩, by omega⟩
          · show w.heap.size ≤ w3.heap.size
            omega
          · rw [ht, if_neg hxr, hs']; simp
          · simp only; omega
          · rw [ht2, if_neg hxr]; simpa using hown
      · have hkj : j = xs.length := by omega
        repeat (any_goals (
          conv => whnf
          first
          | ((with_reducible refine BIF.dec ?_ ?_) <;> intro _)
          | ((with_reducible refine BIF.s ?_ ?_) <;> intro _)
          | (with_reducible refine NEXTK.normal ?_)
          | (with_reducible refine NEXTK.ret ?_)
          | (with_reducible refine NEXTK.exit ?_)
          | (with_reducible refine SEQ.plain ?_)
          | (with_reducible refine hK _ _ ?_)
          | ((with_reducible refine RUNL.agg (fun _ => ?_) ?_); (focus kernel_rfl))
          | (with_reducible refine RUNL.run ?_)
          | ((with_reducible refine AR.ok ?_ ?_); exact ⟨by first | omega | (dsimp only; omega), by first | omega | (dsimp only; omega)⟩)
          | (with_reducible refine AR.wr ?_)
          | ((with_reducible intro w3 e3); try have z3 := cutLe e3)
          | ((with_reducible intro h3); have h4 := Nat.le_of_lt h3; clear h4)))
        intro hx'
        rw [hf]
        subst hkj
        rw [List.take_length] at hown hs'
        subst hs'
        exact ⟨_, rfl, hx', _, rfl, hown⟩
  · have hf : ordersP xs r = ([], 0, false) := by
      unfold ordersP
      rw [if_neg]
      simpa using ho
    repeat (any_goals (
      conv => whnf
      first
      | ((with_reducible refine callF (g := 22) ?_ ?_); kernel_rfl; refine ⟨_, AreOrders_c _ _ _ xs _ (by repeat (first | assumption | refine Row.e0 ?_ (by assumption))) hn (by omega), ?_⟩; intro w4 e4; have z4 := cutLe e4)
      | ((with_reducible refine callF (g := 34) ?_ ?_); kernel_rfl; refine ⟨_, isId_c _ _, ?_⟩; intro w4 e4; have z4 := cutLe e4)
      | ((exfalso; simp_all; done))
      | ((with_reducible refine BIF.dec ?_ ?_) <;> intro _)
      | ((with_reducible refine BIF.s ?_ ?_) <;> intro _)
      | (with_reducible refine NEXTK.normal ?_)
      | (with_reducible refine NEXTK.ret ?_)
      | (with_reducible refine NEXTK.exit ?_)
      | (with_reducible refine SEQ.plain ?_)
      | (with_reducible refine hK _ _ ?_)
      | ((with_reducible refine RUNL.agg (fun _ => ?_) ?_); (focus kernel_rfl))
      | (with_reducible refine RUNL.run ?_)
      | ((with_reducible refine AR.ok ?_ ?_); exact ⟨by first | omega | (dsimp only; omega), by first | omega | (dsimp only; omega)⟩)
      | (with_reducible refine AR.wr ?_)
      | ((with_reducible intro w3 e3); try have z3 := cutLe e3)
      | ((with_reducible intro h3); have h4 := Nat.le_of_lt h3; clear h4)))
    all_goals
      intro hx'
      rw [hf]
      exact ⟨_, rfl, hx', _, rfl, Own.nil _ _ _ _⟩
theorem OrdersOfS_c (a : Option Addr) (n c : Nat) (xs : List Ord) (r : Int) (w : World) (hr : Row w a 5 (xs.map encOrd)) (hn : xs.length = n) (hm : n ≤ 1048577) :
    Calls Try.prog 20 #[.slice a n c, .int .i64 r] w fun e w' => ∃ v, e = .returned v ∧ E0 w w' ∧ ∃ s, v = .tuple #[s, .int .i64 (ordersP xs r).2.1, .bool (ordersP xs r).2.2] ∧ Own w' w.heap.size 3 1 s ((ordersP xs r).1.map encI) := by
  refine enterK Non 50 Try.func20 rfl rfl rfl fun K hK => ?_
  conv => whnf
  repeat (first | ((with_reducible refine NEXTK.normal ?_); conv => whnf) | ((with_reducible refine NEXTK.exit ?_); conv => whnf) | ((with_reducible refine NEXTK.ret ?_); conv => whnf) | ((with_reducible refine SEQ.plain ?_); conv => whnf) | ((with_reducible refine AR.ok ?_ ?_); exact ⟨by omega, by omega⟩; conv => whnf))
  refine bsS elemI [] rfl rfl (by simp) (by omega) (fun w1 e1 o1 => ?_)
  have z1 := cutLe e1
  by_cases ho : areO xs = true ∧ inB r 1 999 = true
  · have hf : ordersP xs r = (idsOf r xs, costOf r xs, true) := by simp [ordersP, ho]
    have hl := areO_len ho.1
    repeat (any_goals (
      conv => whnf
      first
      | ((with_reducible refine callF (g := 30) ?_ ?_); kernel_rfl; refine ⟨_, l28Good_c _ _ _ xs _ (by repeat (first | assumption | refine Row.e0 ?_ (by assumption))) hn (by omega), ?_⟩; intro w4 e4; have z4 := cutLe e4)
      | ((with_reducible refine callF (g := 42) ?_ ?_); kernel_rfl; refine ⟨_, l1In_c _ _ _ _, ?_⟩; intro w4 e4; have z4 := cutLe e4)
      | ((exfalso; simp_all; done))
      | ((intro hx; exfalso; simp_all; done))
      | ((with_reducible refine BIF.dec ?_ ?_) <;> intro _)
      | ((with_reducible refine BIF.s ?_ ?_) <;> intro _)
      | (with_reducible refine NEXTK.normal ?_)
      | (with_reducible refine NEXTK.ret ?_)
      | (with_reducible refine NEXTK.exit ?_)
      | (with_reducible refine SEQ.plain ?_)
      | (with_reducible refine hK _ _ ?_)
      | ((with_reducible refine RUNL.agg (fun _ => ?_) ?_); (focus kernel_rfl))
      | (with_reducible refine RUNL.run ?_)
      | ((with_reducible refine AR.ok ?_ ?_); exact ⟨by first | omega | (dsimp only; omega), by first | omega | (dsimp only; omega)⟩)
      | (with_reducible refine AR.wr ?_)
      | ((with_reducible intro w3 e3); try have z3 := cutLe e3)
      | ((with_reducible intro h3); have h4 := Nat.le_of_lt h3; clear h4)))
    all_goals
      have o4 : Own w4 w.heap.size 3 1 (.slice (some ⟨w.heap.size, 0, none⟩) 0 0) (([] : List Int).map encI) := by
        repeat (first | exact o1 | refine Own.e0 ?_ (by assumption))
      refine LOOP.mk (Nat × (Option Addr × Nat × Nat) × Int) (fun g => [(9, .v (.int .i64 g.1)), (7, .v (.slice g.2.1.1 g.2.1.2.1 g.2.1.2.2)), (8, .v (.int .i64 g.2.2))])
        (fun g wr => g.1 ≤ n ∧ w.heap.size ≤ wr.heap.size ∧ g.2.2 = costOf r (xs.take g.1) ∧ (0 ≤ g.2.2 ∧ g.2.2 ≤ 440 * g.1) ∧ Own wr w.heap.size 3 1 (.slice g.2.1.1 g.2.1.2.1 g.2.1.2.2) ((idsOf r (xs.take g.1)).map encI)) (fun g => n - g.1) (0, (some ⟨w.heap.size, 0, none⟩, 0, 0), 0) rfl ⟨rfl, rfl, rfl, trivial⟩ ⟨Nat.zero_le _, by show w.heap.size ≤ w4.heap.size; omega, by simp [costOf], by simp, o4⟩ ?_
      rintro ⟨j, ⟨b, m, d⟩, s⟩ wr - ⟨hj, hz, hs', hb, hown⟩
      simp only at hj hs' hz hb hown
      have oL := fun k h => hown.block (k := k) h
      have hml := hown.row.2
      conv => whnf
      repeat (first | ((with_reducible refine NEXTK.normal ?_); conv => whnf) | ((with_reducible refine NEXTK.exit ?_); conv => whnf) | ((with_reducible refine NEXTK.ret ?_); conv => whnf) | ((with_reducible refine SEQ.plain ?_); conv => whnf) | ((with_reducible refine AR.ok ?_ ?_); exact ⟨by omega, by omega⟩; conv => whnf))
      refine BIF.dec (fun hlt => ?_) (fun hlt => ?_)
      · have hlt' : j < xs.length := by omega
        have his := hr.isSome (by simp; omega)
        obtain ⟨x, hx⟩ : ∃ x, xs[j]? = some x := ⟨xs[j]'(by omega), by simp⟩
        have hx2 := (areO_pages ho.1).2 x (List.mem_of_getElem? hx)
        have hp2 := price_bnd hx2
        have ht := costOf_take r hx
        have ht2 := idsOf_take r hx
        have hil := idsOf_len r (xs.take j)
        have hil2 : (idsOf r (xs.take j)).length ≤ 12 := by simp at hil; omega
        by_cases hxr : x.fReader = r
        · repeat (any_goals (
            conv => whnf
            first
            | ((with_reducible refine OBL.mk ?_ (fun _ => ?_)); exact ⟨by first | omega | (dsimp only; omega), by first | omega | (dsimp only; omega), his⟩)
            | ((with_reducible refine ELD.at (j) hr ?_ ?_ ?_ (fun x' hx' => ?_)); exact mAddr_Non _; (first | rfl | omega); exact hlt'; obtain rfl : x = x' := by (rw [hx] at hx'; exact Option.some.inj hx'))
            | ((with_reducible refine BIF.beq ?_ ?_) <;> intro _)
            | ((exfalso; omega))
            | ((with_reducible refine bsS elemI [.int .i64 x.fId] ?_ ?_ ?_ ?_ ?_); (focus rfl); (focus rfl); (focus (intro v hv; simp at hv; subst hv; rfl)); (focus omega); intro w9 e9 oB; have z9 := cutLe e9; try replace oC := oC.e0 e9)
            | ((with_reducible refine BIF.dec ?_ ?_) <;> intro _)
            | ((with_reducible refine BIF.s ?_ ?_) <;> intro _)
            | (with_reducible refine NEXTK.normal ?_)
            | (with_reducible refine NEXTK.ret ?_)
            | (with_reducible refine NEXTK.exit ?_)
            | (with_reducible refine SEQ.plain ?_)
            | (with_reducible refine hK _ _ ?_)
            | ((with_reducible refine RUNL.agg (fun _ => ?_) ?_); (focus kernel_rfl))
            | (with_reducible refine RUNL.run ?_)
            | ((with_reducible refine AR.ok ?_ ?_); exact ⟨by first | omega | (dsimp only; omega), by first | omega | (dsimp only; omega)⟩)
            | (with_reducible refine AR.wr ?_)
            | ((with_reducible intro w3 e3); try have z3 := cutLe e3)
            | ((with_reducible intro h3); have h4 := Nat.le_of_lt h3; clear h4)))
          conv => whnf
          replace hown := hown.e0 e9
          refine apS (ns := [encI x.fId]) elemI hown oB.row.1 rfl (by intro l hl; simp at hl; subst hl; rfl) ⟨by simp; omega, by simp; omega⟩ ⟨(by show w.heap.size ≤ _; omega), by omega⟩ trivial (fun v2 w2 x2 o2 => ?_)
          have z2 := cutLe x2
          replace o2 : Own w2 w.heap.size 3 1 v2 ((idsOf r (xs.take (j + 1))).map encI) := by rw [ht2, if_pos hxr]; simpa using o2
          obtain ⟨b2, d2, rfl, q2, p2⟩ := o2.rowx
          repeat (any_goals (
            conv => whnf
            first
            | ((with_reducible refine OBL.mk ?_ (fun _ => ?_)); exact ⟨by first | omega | (dsimp only; omega), by first | omega | (dsimp only; omega), his⟩)
            | ((with_reducible refine ELD.at (j) hr ?_ ?_ ?_ (fun x' hx' => ?_)); exact mAddr_Non _; (first | rfl | omega); exact hlt'; obtain rfl : x = x' := by (rw [hx] at hx'; exact Option.some.inj hx'))
            | ((with_reducible refine callF (g := 41) ?_ ?_); kernel_rfl; refine ⟨_, l28Price_c _ _ hx2, ?_⟩; intro w4 e4; have z4 := cutLe e4)
            | ((with_reducible refine BIF.dec ?_ ?_) <;> intro _)
            | ((with_reducible refine BIF.s ?_ ?_) <;> intro _)
            | (with_reducible refine NEXTK.normal ?_)
            | (with_reducible refine NEXTK.ret ?_)
            | (with_reducible refine NEXTK.exit ?_)
            | (with_reducible refine SEQ.plain ?_)
            | (with_reducible refine hK _ _ ?_)
            | ((with_reducible refine RUNL.agg (fun _ => ?_) ?_); (focus kernel_rfl))
            | (with_reducible refine RUNL.run ?_)
            | ((with_reducible refine AR.ok ?_ ?_); exact ⟨by first | omega | (dsimp only; omega), by first | omega | (dsimp only; omega)⟩)
            | (with_reducible refine AR.wr ?_)
            | ((with_reducible intro w3 e3); try have z3 := cutLe e3)
            | ((with_reducible intro h3); have h4 := Nat.le_of_lt h3; clear h4)))
          refine ⟨(j + 1, (b2, _, d2), _), rfl, ⟨rfl, rfl, rfl, trivial⟩, rfl, rfl, ⟨by omega, ?_, ?_, ?_, ?_⟩, by omega⟩
          · show w.heap.size ≤ w4.heap.size
            omega
          · rw [ht, if_pos hxr, hs']
          · simp only; omega
          · exact o2.e0 e4
        · repeat (any_goals (
            conv => whnf
            first
            | ((with_reducible refine OBL.mk ?_ (fun _ => ?_)); exact ⟨by first | omega | (dsimp only; omega), by first | omega | (dsimp only; omega), his⟩)
            | ((with_reducible refine ELD.at (j) hr ?_ ?_ ?_ (fun x' hx' => ?_)); exact mAddr_Non _; (first | rfl | omega); exact hlt'; obtain rfl : x = x' := by (rw [hx] at hx'; exact Option.some.inj hx'))
            | ((with_reducible refine BIF.beq ?_ ?_) <;> intro _)
            | ((exfalso; omega))
            | ((with_reducible refine BIF.dec ?_ ?_) <;> intro _)
            | ((with_reducible refine BIF.s ?_ ?_) <;> intro _)
            | (with_reducible refine NEXTK.normal ?_)
            | (with_reducible refine NEXTK.ret ?_)
            | (with_reducible refine NEXTK.exit ?_)
            | (with_reducible refine SEQ.plain ?_)
            | (with_reducible refine hK _ _ ?_)
            | ((with_reducible refine RUNL.agg (fun _ => ?_) ?_); (focus kernel_rfl))
            | (with_reducible refine RUNL.run ?_)
            | ((with_reducible refine AR.ok ?_ ?_); exact ⟨by first | omega | (dsimp only; omega), by first | omega | (dsimp only; omega)⟩)
            | (with_reducible refine AR.wr ?_)
            | ((with_reducible intro w3 e3); try have z3 := cutLe e3)
            | ((with_reducible intro h3); have h4 := Nat.le_of_lt h3; clear h4)))
          refine ⟨(j + 1, (b, m, d), s), rfl, ⟨rfl, rfl, rfl, trivial⟩, rfl, rfl, ⟨by omega, ?_, ?_, ?_, ?_⟩, by omega⟩
          · exact hz
          · rw [ht, if_neg hxr, hs']; simp
          · simp only; omega
          · rw [ht2, if_neg hxr]; simpa using hown
      · have hkj : j = xs.length := by omega
        repeat (any_goals (
          conv => whnf
          first
          | ((with_reducible refine BIF.dec ?_ ?_) <;> intro _)
          | ((with_reducible refine BIF.s ?_ ?_) <;> intro _)
          | (with_reducible refine NEXTK.normal ?_)
          | (with_reducible refine NEXTK.ret ?_)
          | (with_reducible refine NEXTK.exit ?_)
          | (with_reducible refine SEQ.plain ?_)
          | (with_reducible refine hK _ _ ?_)
          | ((with_reducible refine RUNL.agg (fun _ => ?_) ?_); (focus kernel_rfl))
          | (with_reducible refine RUNL.run ?_)
          | ((with_reducible refine AR.ok ?_ ?_); exact ⟨by first | omega | (dsimp only; omega), by first | omega | (dsimp only; omega)⟩)
          | (with_reducible refine AR.wr ?_)
          | ((with_reducible intro w3 e3); try have z3 := cutLe e3)
          | ((with_reducible intro h3); have h4 := Nat.le_of_lt h3; clear h4)))
        intro hx'
        rw [hf]
        subst hkj
        rw [List.take_length] at hown hs'
        subst hs'
        exact ⟨_, rfl, hx', _, rfl, hown⟩
  · have hf : ordersP xs r = ([], 0, false) := by
      unfold ordersP
      rw [if_neg]
      simpa using ho
    repeat (any_goals (
      conv => whnf
      first
      | ((with_reducible refine callF (g := 30) ?_ ?_); kernel_rfl; refine ⟨_, l28Good_c _ _ _ xs _ (by repeat (first | assumption | refine Row.e0 ?_ (by assumption))) hn (by omega), ?_⟩; intro w4 e4; have z4 := cutLe e4)
      | ((with_reducible refine callF (g := 42) ?_ ?_); kernel_rfl; refine ⟨_, l1In_c _ _ _ _, ?_⟩; intro w4 e4; have z4 := cutLe e4)
      | ((exfalso; simp_all; done))
      | ((with_reducible refine BIF.dec ?_ ?_) <;> intro _)
      | ((with_reducible refine BIF.s ?_ ?_) <;> intro _)
      | (with_reducible refine NEXTK.normal ?_)
      | (with_reducible refine NEXTK.ret ?_)
      | (with_reducible refine NEXTK.exit ?_)
      | (with_reducible refine SEQ.plain ?_)
      | (with_reducible refine hK _ _ ?_)
      | ((with_reducible refine RUNL.agg (fun _ => ?_) ?_); (focus kernel_rfl))
      | (with_reducible refine RUNL.run ?_)
      | ((with_reducible refine AR.ok ?_ ?_); exact ⟨by first | omega | (dsimp only; omega), by first | omega | (dsimp only; omega)⟩)
      | (with_reducible refine AR.wr ?_)
      | ((with_reducible intro w3 e3); try have z3 := cutLe e3)
      | ((with_reducible intro h3); have h4 := Nat.le_of_lt h3; clear h4)))
    all_goals
      intro hx'
      rw [hf]
      exact ⟨_, rfl, hx', _, rfl, (by clear hx'; repeat (first | exact o1 | exact o1.lo (by omega) | refine Own.e0 ?_ (by assumption)))⟩

end Go.Proofs.Ytlhlbgnhnkfmgaa

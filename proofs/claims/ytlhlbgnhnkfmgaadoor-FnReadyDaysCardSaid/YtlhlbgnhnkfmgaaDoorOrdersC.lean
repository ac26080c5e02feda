/- MadeBy. -/
import Derived.Test.YtlhlbgnhnkfmgaaDoorRows
import Derived.Test.YtlhlbgnhnkfmgaaDoorOrdersB
namespace Go.Proofs.YtlhlbgnhnkfmgaaDoor
open Go Go.X Go.Proofs Go.ChangeShapes Go.WideShapes Go.ChangeAt Go.RowKit
open Go.ChangeMaps (open_string shut_string)
set_option maxHeartbeats 1000000
set_option maxRecDepth 20000
set_option linter.unusedVariables false
set_option linter.unusedSimpArgs false
def isMade (xs : List Ord) (f d q : Int) (k : Nat) (x : Ord) : Bool := decide (x.fReady = -1) && decide (readyD xs k f q ≤ d)
def madeUp (xs : List Ord) (f d q : Int) : Nat → List Int
  | 0 => []
  | k + 1 => madeUp xs f d q k ++ (match xs[k]? with
    | some x => if isMade xs f d q k x then [x.fId] else []
    | none => [])
theorem madeUp_at (f d q : Int) {xs : List Ord} {k : Nat} {x : Ord} (h : xs[k]? = some x) : madeUp xs f d q (k + 1) = madeUp xs f d q k ++ (if isMade xs f d q k x then [x.fId] else []) := by
  simp [madeUp, h]
theorem madeUp_len (xs : List Ord) (f d q : Int) : ∀ k, (madeUp xs f d q k).length ≤ k
  | 0 => Nat.le_refl _
  | k + 1 => by
    have := madeUp_len xs f d q k
    simp only [madeUp, List.length_append]
    split
    · split <;> simp <;> omega
    · simp; omega
def madeOk (xs : List Ord) (f d q : Int) : Bool := areO xs && inB f 0 4000 && inB d 0 4000 && decide (f ≤ d) && inB q 1 100
def madeP (xs : List Ord) (f d q : Int) : List Int × Bool := if madeOk xs f d q then (madeUp xs f d q xs.length, true) else ([], false)
theorem madeP_len (xs : List Ord) (f d q : Int) : (madeP xs f d q).1.length ≤ xs.length := by
  unfold madeP
  split
  · exact madeUp_len xs f d q _
  · simp
theorem madeBy_c (a : Option Addr) (n c : Nat) (xs : List Ord) (f d q : Int) (w : World) (hr : Row w a 5 (xs.map encOrd)) (hn : xs.length = n) (hc : n ≤ c ∧ c < 9223372036854775808) (hp : pagesOk xs) (hd : 0 ≤ f ∧ f ≤ 4000) (hq : 1 ≤ q ∧ q ≤ 100) :
    Calls Tryd.prog 31 #[.slice a n c, .int .i64 f, .int .i64 d, .int .i64 q] w fun e w' => ∃ v, e = .returned v ∧ E0 w w' ∧ Own w' w.heap.size 3 1 v ((madeUp xs f d q n).map encI) := by
  have hl := hp.1
  refine enterK Non 37 Tryd.func31 rfl rfl rfl fun K hK => ?_
  conv => whnf
  repeat (first | ((with_reducible refine NEXTK.normal ?_); conv => whnf) | ((with_reducible refine NEXTK.exit ?_); conv => whnf) | ((with_reducible refine NEXTK.ret ?_); conv => whnf) | ((with_reducible refine SEQ.plain ?_); conv => whnf) | ((with_reducible refine AR.ok ?_ ?_); exact ⟨by omega, by omega⟩; conv => whnf))
  refine LOOP.mk (Nat × (Option Addr × Nat × Nat)) (fun g => [(14, .v (.int .i64 g.1)), (9, .v (.slice g.2.1 g.2.2.1 g.2.2.2))])
    (fun g wr => g.1 ≤ n ∧ w.heap.size ≤ wr.heap.size ∧ Own wr w.heap.size 3 1 (.slice g.2.1 g.2.2.1 g.2.2.2) ((madeUp xs f d q g.1).map encI)) (fun g => n - g.1) (0, (none, 0, 0)) rfl ⟨rfl, rfl, trivial⟩ ⟨Nat.zero_le _, Nat.le_refl _, Own.nil _ _ _ _⟩ ?_
  rintro ⟨j, ⟨b, m, e⟩⟩ wr - ⟨hj, hz, hown⟩
  simp only at hj hz hown
  have oL := fun k h => hown.block (k := k) h
  have hml := hown.row.2
  conv => whnf
  repeat (first | ((with_reducible refine NEXTK.normal ?_); conv => whnf) | ((with_reducible refine NEXTK.exit ?_); conv => whnf) | ((with_reducible refine NEXTK.ret ?_); conv => whnf) | ((with_reducible refine SEQ.plain ?_); conv => whnf) | ((with_reducible refine AR.ok ?_ ?_); exact ⟨by omega, by omega⟩; conv => whnf))
  refine BIF.dec (fun hlt => ?_) (fun hlt => ?_)
  · have hlt' : j < xs.length := by omega
    have his := hr.isSome (by simp; omega)
    obtain ⟨x, hx⟩ : ∃ x, xs[j]? = some x := ⟨xs[j]'(by omega), by simp⟩
    have ht := madeUp_at f d q hx
    have hil := madeUp_len xs f d q j
    by_cases hxr : x.fReady = -1 ∧ readyD xs j f q ≤ d
    · have hmd : isMade xs f d q j x = true := by simp [isMade, hxr]
      repeat (any_goals (
        conv => whnf
        first
        | ((with_reducible refine OBL.mk ?_ (fun _ => ?_)); exact ⟨by first | omega | (dsimp only; omega), by first | omega | (dsimp only; omega), his⟩)
        | ((with_reducible refine ELD.at (j) hr ?_ ?_ ?_ (fun x' hx' => ?_)); exact mAddr_Non _; (first | rfl | omega); exact hlt'; obtain rfl : x = x' := by (rw [hx] at hx'; exact Option.some.inj hx'))
        | ((with_reducible intro w3 e3); have z3 := cutLe e3; replace hown := hown.ext e3 (by first | exact fun _ _ h => h | (intro k hk h; have hh := oL k hk; simp only [bk] at h; omega)))
        | ((with_reducible refine callF (g := 27) ?_ ?_); kernel_rfl; refine ⟨_, waits_c _ _, ?_⟩; intro w4 e4; have z4 := cutLe e4; replace hown := hown.e0 e4)
        | ((with_reducible refine callX (g := 43) ?_ ?_); kernel_rfl; intro hX; refine ⟨_, readyDay_c _ _ _ j xs _ _ _ x (hr.ext hX (mAddr_Non _)) hn hc hp hx (by omega) _ rfl hd hq, ?_⟩; intro w4 e4; have z4 := cutLe e4; replace hown := hown.e0 e4)
        | ((with_reducible refine BIF.dec ?_ ?_) <;> intro _)
        | ((exfalso; omega))
        | ((with_reducible refine bsS elemI [.int .i64 x.fId] ?_ ?_ ?_ ?_ ?_); (focus rfl); (focus rfl); (focus (intro v hv; simp at hv; subst hv; rfl)); (focus omega); intro w9 e9 oB; have z9 := cutLe e9; try replace oC := oC.e0 e9)
        | ((with_reducible refine BIF.dec ?_ ?_) <;> intro _)
        | ((with_reducible refine BIF.s ?_ ?_) <;> intro _)
        | (with_reducible refine NEXTK.normal ?_)
        | (with_reducible refine NEXTK.ret ?_)
        | (with_reducible refine NEXTK.exit ?_)
        | (with_reducible refine SEQ.plain ?_)
        | (with_reducible refine hK _ _ ?_)
        | ((with_reducible refine RUNL.agg (fun _ => ?_) ?_); (focus kernel_rfl))
        | (with_reducible refine RUNL.run ?_)
        | ((with_reducible refine AR.ok ?_ ?_); exact ⟨by first | omega | (dsimp only; omega), by first | omega | (dsimp only; omega)⟩)
        | (with_reducible refine AR.wr ?_)
        | ((with_reducible intro w3 e3); try have z3 := cutLe e3)
        | ((with_reducible intro h3); have h4 := Nat.le_of_lt h3; clear h4)))
      conv => whnf
      replace hown := hown.e0 e9
      refine apS (ns := [encI x.fId]) elemI hown oB.row.1 rfl (by intro l hl; simp at hl; subst hl; rfl) ⟨by simp; omega, by simp; omega⟩ ⟨(by show w.heap.size ≤ _; omega), by omega⟩ ⟨fun h => by have := (oL _ h).2; dsimp only at this; omega, trivial⟩ (fun v2 w2 x2 o2 => ?_)
      have z2 := cutLe x2
      replace o2 : Own w2 w.heap.size 3 1 v2 ((madeUp xs f d q (j + 1)).map encI) := by rw [ht, if_pos hmd]; simpa using o2
      obtain ⟨b2, d2, rfl, q2, p2⟩ := o2.rowx
      repeat (any_goals (
        conv => whnf
        first
        | ((with_reducible refine BIF.dec ?_ ?_) <;> intro _)
        | ((with_reducible refine BIF.s ?_ ?_) <;> intro _)
        | (with_reducible refine NEXTK.normal ?_)
        | (with_reducible refine NEXTK.ret ?_)
        | (with_reducible refine NEXTK.exit ?_)
        | (with_reducible refine SEQ.plain ?_)
        | (with_reducible refine hK _ _ ?_)
        | ((with_reducible refine RUNL.agg (fun _ => ?_) ?_); (focus kernel_rfl))
        | (with_reducible refine RUNL.run ?_)
        | ((with_reducible refine AR.ok ?_ ?_); exact ⟨by first | omega | (dsimp only; omega), by first | omega | (dsimp only; omega)⟩)
        | (with_reducible refine AR.wr ?_)
        | ((with_reducible intro w3 e3); try have z3 := cutLe e3)
        | ((with_reducible intro h3); have h4 := Nat.le_of_lt h3; clear h4)))
      refine ⟨(j + 1, (b2, _, d2)), rfl, ⟨rfl, rfl, trivial⟩, rfl, rfl, ⟨by omega, ?_, ?_⟩, by omega⟩
      · show w.heap.size ≤ w2.heap.size
        omega
      · exact o2
    · have hmd : ¬ isMade xs f d q j x = true := by simpa [isMade] using hxr
      repeat (any_goals (
        conv => whnf
        first
        | ((with_reducible refine OBL.mk ?_ (fun _ => ?_)); exact ⟨by first | omega | (dsimp only; omega), by first | omega | (dsimp only; omega), his⟩)
        | ((with_reducible refine ELD.at (j) hr ?_ ?_ ?_ (fun x' hx' => ?_)); exact mAddr_Non _; (first | rfl | omega); exact hlt'; obtain rfl : x = x' := by (rw [hx] at hx'; exact Option.some.inj hx'))
        | ((with_reducible intro w3 e3); have z3 := cutLe e3; replace hown := hown.ext e3 (by first | exact fun _ _ h => h | (intro k hk h; have hh := oL k hk; simp only [bk] at h; omega)))
        | ((with_reducible refine callF (g := 27) ?_ ?_); kernel_rfl; refine ⟨_, waits_c _ _, ?_⟩; intro w4 e4; have z4 := cutLe e4; replace hown := hown.e0 e4)
        | ((with_reducible refine callX (g := 43) ?_ ?_); kernel_rfl; intro hX; refine ⟨_, readyDay_c _ _ _ j xs _ _ _ x (hr.ext hX (mAddr_Non _)) hn hc hp hx (by omega) _ rfl hd hq, ?_⟩; intro w4 e4; have z4 := cutLe e4; replace hown := hown.e0 e4)
        | ((with_reducible refine BIF.dec ?_ ?_) <;> intro _)
        | ((exfalso; omega))
        | ((with_reducible refine bsS elemI [.int .i64 x.fId] ?_ ?_ ?_ ?_ ?_); (focus rfl); (focus rfl); (focus (intro v hv; simp at hv; subst hv; rfl)); (focus omega); intro w9 e9 oB; have z9 := cutLe e9; try replace oC := oC.e0 e9)
        | ((with_reducible refine BIF.dec ?_ ?_) <;> intro _)
        | ((with_reducible refine BIF.s ?_ ?_) <;> intro _)
        | (with_reducible refine NEXTK.normal ?_)
        | (with_reducible refine NEXTK.ret ?_)
        | (with_reducible refine NEXTK.exit ?_)
        | (with_reducible refine SEQ.plain ?_)
        | (with_reducible refine hK _ _ ?_)
        | ((with_reducible refine RUNL.agg (fun _ => ?_) ?_); (focus kernel_rfl))
        | (with_reducible refine RUNL.run ?_)
        | ((with_reducible refine AR.ok ?_ ?_); exact ⟨by first | omega | (dsimp only; omega), by first | omega | (dsimp only; omega)⟩)
        | (with_reducible refine AR.wr ?_)
        | ((with_reducible intro w3 e3); try have z3 := cutLe e3)
        | ((with_reducible intro h3); have h4 := Nat.le_of_lt h3; clear h4)))
      all_goals
        refine ⟨(j + 1, (b, m, e)), rfl, ⟨rfl, rfl, trivial⟩, rfl, rfl, ⟨by omega, ?_, ?_⟩, by omega⟩
        · first | (show w.heap.size ≤ w4.heap.size; omega)
        · rw [ht, if_neg hmd]; simpa using hown
  · have hkj : j = n := by omega
    repeat (any_goals (
      conv => whnf
      first
      | ((with_reducible refine BIF.dec ?_ ?_) <;> intro _)
      | ((with_reducible refine BIF.s ?_ ?_) <;> intro _)
      | (with_reducible refine NEXTK.normal ?_)
      | (with_reducible refine NEXTK.ret ?_)
      | (with_reducible refine NEXTK.exit ?_)
      | (with_reducible refine SEQ.plain ?_)
      | (with_reducible refine hK _ _ ?_)
      | ((with_reducible refine RUNL.agg (fun _ => ?_) ?_); (focus kernel_rfl))
      | (with_reducible refine RUNL.run ?_)
      | ((with_reducible refine AR.ok ?_ ?_); exact ⟨by first | omega | (dsimp only; omega), by first | omega | (dsimp only; omega)⟩)
      | (with_reducible refine AR.wr ?_)
      | ((with_reducible intro w3 e3); try have z3 := cutLe e3)
      | ((with_reducible intro h3); have h4 := Nat.le_of_lt h3; clear h4)))
    intro hx'
    subst hkj
    exact ⟨_, rfl, hx', hown⟩
theorem MadeBy_c (a : Option Addr) (n c : Nat) (xs : List Ord) (f d q : Int) (w : World) (hr : Row w a 5 (xs.map encOrd)) (hn : xs.length = n) (hm : n ≤ 1048577) (hc : n ≤ c ∧ c < 9223372036854775808) :
    Calls Tryd.prog 12 #[.slice a n c, .int .i64 f, .int .i64 d, .int .i64 q] w fun e w' => ∃ v, e = .returned v ∧ E0 w w' ∧ ∃ s, v = .tuple #[s, .bool (madeP xs f d q).2] ∧ Own w' w.heap.size 3 1 s ((madeP xs f d q).1.map encI) := by
  refine enterK Non 29 Tryd.func12 rfl rfl rfl fun K hK => ?_
  by_cases ho : areO xs = true ∧ inB f 0 4000 = true ∧ inB d 0 4000 = true ∧ f ≤ d ∧ inB q 1 100 = true
  · have hf : madeP xs f d q = (madeUp xs f d q n, true) := by simp [madeP, madeOk, ho, hn]
    have hp := areO_pages ho.1
    have h1 := inB_iff.1 ho.2.1
    have h2 := inB_iff.1 ho.2.2.2.2
    repeat (any_goals (
      conv => whnf
      first
      | ((with_reducible refine callF (g := 28) ?_ ?_); kernel_rfl; refine ⟨_, AreOrders_c _ _ _ xs _ (by repeat (first | assumption | refine Row.e0 ?_ (by assumption))) hn (by omega), ?_⟩; intro w4 e4; have z4 := cutLe e4)
      | ((with_reducible refine callF (g := 29) ?_ ?_); kernel_rfl; refine ⟨_, areDays_c _ _ _, ?_⟩; intro w4 e4; have z4 := cutLe e4)
      | ((with_reducible refine callF (g := 30) ?_ ?_); kernel_rfl; refine ⟨_, isRate_c _ _, ?_⟩; intro w4 e4; have z4 := cutLe e4)
      | ((exfalso; simp_all; done))
      | ((with_reducible refine BIF.dec ?_ ?_) <;> intro _)
      | ((with_reducible refine BIF.s ?_ ?_) <;> intro _)
      | (with_reducible refine NEXTK.normal ?_)
      | (with_reducible refine NEXTK.ret ?_)
      | (with_reducible refine NEXTK.exit ?_)
      | (with_reducible refine SEQ.plain ?_)
      | (with_reducible refine hK _ _ ?_)
      | ((with_reducible refine RUNL.agg (fun _ => ?_) ?_); (focus kernel_rfl))
      | (with_reducible refine RUNL.run ?_)
      | ((with_reducible refine AR.ok ?_ ?_); exact ⟨by first | omega | (dsimp only; omega), by first | omega | (dsimp only; omega)⟩)
      | (with_reducible refine AR.wr ?_)
      | ((with_reducible intro w3 e3); try have z3 := cutLe e3)
      | ((with_reducible intro h3); have h4 := Nat.le_of_lt h3; clear h4)))
    conv => whnf
    refine callY (g := 31) (by kernel_rfl) ⟨_, fun x => madeBy_c _ _ _ xs _ _ _ _ (hr.ext x (mAddr_Non _)) hn hc hp h1 h2, fun r w5 e5 o5 => ?_⟩
    have z5 := cutLe e5
    obtain ⟨b5, d5, rfl, q5, p5⟩ := o5.rowx
    repeat (any_goals (
      conv => whnf
      first
      | ((with_reducible refine BIF.dec ?_ ?_) <;> intro _)
      | ((with_reducible refine BIF.s ?_ ?_) <;> intro _)
      | (with_reducible refine NEXTK.normal ?_)
      | (with_reducible refine NEXTK.ret ?_)
      | (with_reducible refine NEXTK.exit ?_)
      | (with_reducible refine SEQ.plain ?_)
      | (with_reducible refine hK _ _ ?_)
      | ((with_reducible refine RUNL.agg (fun _ => ?_) ?_); (focus kernel_rfl))
      | (with_reducible refine RUNL.run ?_)
      | ((with_reducible refine AR.ok ?_ ?_); exact ⟨by first | omega | (dsimp only; omega), by first | omega | (dsimp only; omega)⟩)
      | (with_reducible refine AR.wr ?_)
      | ((with_reducible intro w3 e3); try have z3 := cutLe e3)
      | ((with_reducible intro h3); have h4 := Nat.le_of_lt h3; clear h4)))
    intro hx'
    rw [hf]
    exact ⟨_, rfl, hx', _, rfl, (by clear hx'; repeat (first | exact o5 | exact o5.lo (by omega) | refine Own.e0 ?_ (by assumption)))⟩
  · have hf : madeP xs f d q = ([], false) := by
      unfold madeP madeOk
      rw [if_neg]
      simpa [and_assoc] using ho
    repeat (any_goals (
      conv => whnf
      first
      | ((with_reducible refine callF (g := 28) ?_ ?_); kernel_rfl; refine ⟨_, AreOrders_c _ _ _ xs _ (by repeat (first | assumption | refine Row.e0 ?_ (by assumption))) hn (by omega), ?_⟩; intro w4 e4; have z4 := cutLe e4)
      | ((with_reducible refine callF (g := 29) ?_ ?_); kernel_rfl; refine ⟨_, areDays_c _ _ _, ?_⟩; intro w4 e4; have z4 := cutLe e4)
      | ((with_reducible refine callF (g := 30) ?_ ?_); kernel_rfl; refine ⟨_, isRate_c _ _, ?_⟩; intro w4 e4; have z4 := cutLe e4)
      | ((exfalso; simp_all; done))
      | ((with_reducible refine BIF.dec ?_ ?_) <;> intro _)
      | ((with_reducible refine BIF.s ?_ ?_) <;> intro _)
      | (with_reducible refine NEXTK.normal ?_)
      | (with_reducible refine NEXTK.ret ?_)
      | (with_reducible refine NEXTK.exit ?_)
      | (with_reducible refine SEQ.plain ?_)
      | (with_reducible refine hK _ _ ?_)
      | ((with_reducible refine RUNL.agg (fun _ => ?_) ?_); (focus kernel_rfl))
      | (with_reducible refine RUNL.run ?_)
      | ((with_reducible refine AR.ok ?_ ?_); exact ⟨by first | omega | (dsimp only; omega), by first | omega | (dsimp only; omega)⟩)
      | (with_reducible refine AR.wr ?_)
      | ((with_reducible intro w3 e3); try have z3 := cutLe e3)
      | ((with_reducible intro h3); have h4 := Nat.le_of_lt h3; clear h4)))
    all_goals
      intro hx'
      rw [hf]
      exact ⟨_, rfl, hx', _, rfl, Own.nil _ _ _ _⟩
theorem MadeByS_c (a : Option Addr) (n c : Nat) (xs : List Ord) (f d q : Int) (w : World) (hr : Row w a 5 (xs.map encOrd)) (hn : xs.length = n) (hm : n ≤ 1048577) (hc : n ≤ c ∧ c < 9223372036854775808) :
    Calls Tryd.prog 20 #[.slice a n c, .int .i64 f, .int .i64 d, .int .i64 q] w fun e w' => ∃ v, e = .returned v ∧ E0 w w' ∧ ∃ s, v = .tuple #[s, .bool (madeP xs f d q).2] ∧ Own w' w.heap.size 3 1 s ((madeP xs f d q).1.map encI) := by
  refine enterK Non 67 Tryd.func20 rfl rfl rfl fun K hK => ?_
  conv => whnf
  repeat (first | ((with_reducible refine NEXTK.normal ?_); conv => whnf) | ((with_reducible refine NEXTK.exit ?_); conv => whnf) | ((with_reducible refine NEXTK.ret ?_); conv => whnf) | ((with_reducible refine SEQ.plain ?_); conv => whnf) | ((with_reducible refine AR.ok ?_ ?_); exact ⟨by omega, by omega⟩; conv => whnf))
  refine bsS elemI [] rfl rfl (by simp) (by omega) (fun w1 e1 o1 => ?_)
  have z1 := cutLe e1
  by_cases ho : areO xs = true ∧ inB f 0 4000 = true ∧ inB d 0 4000 = true ∧ f ≤ d ∧ inB q 1 100 = true
  · have hf : madeP xs f d q = (madeUp xs f d q n, true) := by simp [madeP, madeOk, ho, hn]
    have hp := areO_pages ho.1
    have hl := hp.1
    have hd := inB_iff.1 ho.2.1
    have hq := inB_iff.1 ho.2.2.2.2
    have hfd := ho.2.2.2.1
    repeat (any_goals (
      conv => whnf
      first
      | ((with_reducible refine callF (g := 32) ?_ ?_); kernel_rfl; refine ⟨_, l28Good_c _ _ _ xs _ (by repeat (first | assumption | refine Row.e0 ?_ (by assumption))) hn (by omega), ?_⟩; intro w4 e4; have z4 := cutLe e4)
      | ((with_reducible refine callF (g := 33) ?_ ?_); kernel_rfl; refine ⟨_, l2Day_c _ _, ?_⟩; intro w4 e4; have z4 := cutLe e4)
      | ((with_reducible refine callF (g := 36) ?_ ?_); kernel_rfl; refine ⟨_, l28Rate_c _ _, ?_⟩; intro w4 e4; have z4 := cutLe e4)
      | ((exfalso; simp_all; done))
      | ((exfalso; omega))
      | ((with_reducible refine BIF.dec ?_ ?_) <;> intro _)
      | ((with_reducible refine BIF.s ?_ ?_) <;> intro _)
      | (with_reducible refine NEXTK.normal ?_)
      | (with_reducible refine NEXTK.ret ?_)
      | (with_reducible refine NEXTK.exit ?_)
      | (with_reducible refine SEQ.plain ?_)
      | (with_reducible refine hK _ _ ?_)
      | ((with_reducible refine RUNL.agg (fun _ => ?_) ?_); (focus kernel_rfl))
      | (with_reducible refine RUNL.run ?_)
      | ((with_reducible refine AR.ok ?_ ?_); exact ⟨by first | omega | (dsimp only; omega), by first | omega | (dsimp only; omega)⟩)
      | (with_reducible refine AR.wr ?_)
      | ((with_reducible intro w3 e3); try have z3 := cutLe e3)
      | ((with_reducible intro h3); have h4 := Nat.le_of_lt h3; clear h4)))
    have o4 : Own w4 w.heap.size 3 1 (.slice (some ⟨w.heap.size, 0, none⟩) 0 0) (([] : List Int).map encI) := by
      repeat (first | exact o1 | refine Own.e0 ?_ (by assumption))
    refine LOOP.mk (Nat × (Option Addr × Nat × Nat)) (fun g => [(11, .v (.int .i64 g.1)), (10, .v (.slice g.2.1 g.2.2.1 g.2.2.2))])
      (fun g wr => g.1 ≤ n ∧ w.heap.size ≤ wr.heap.size ∧ Own wr w.heap.size 3 1 (.slice g.2.1 g.2.2.1 g.2.2.2) ((madeUp xs f d q g.1).map encI)) (fun g => n - g.1) (0, (some ⟨w.heap.size, 0, none⟩, 0, 0)) rfl ⟨rfl, rfl, trivial⟩ ⟨Nat.zero_le _, by show w.heap.size ≤ w4.heap.size; omega, o4⟩ ?_
    rintro ⟨j, ⟨b, m, e⟩⟩ wr - ⟨hj, hz, hown⟩
    simp only at hj hz hown
    have oL := fun k h => hown.block (k := k) h
    have hml := hown.row.2
    conv => whnf
    repeat (first | ((with_reducible refine NEXTK.normal ?_); conv => whnf) | ((with_reducible refine NEXTK.exit ?_); conv => whnf) | ((with_reducible refine NEXTK.ret ?_); conv => whnf) | ((with_reducible refine SEQ.plain ?_); conv => whnf) | ((with_reducible refine AR.ok ?_ ?_); exact ⟨by omega, by omega⟩; conv => whnf))
    refine BIF.dec (fun hlt => ?_) (fun hlt => ?_)
    · have hlt' : j < xs.length := by omega
      have his := hr.isSome (by simp; omega)
      obtain ⟨x, hx⟩ : ∃ x, xs[j]? = some x := ⟨xs[j]'(by omega), by simp⟩
      have ht := madeUp_at f d q hx
      have hil := madeUp_len xs f d q j
      by_cases hxr : x.fReady = -1 ∧ readyD xs j f q ≤ d
      · have hmd : isMade xs f d q j x = true := by simp [isMade, hxr]
        repeat (any_goals (
          conv => whnf
          first
          | ((with_reducible refine OBL.mk ?_ (fun _ => ?_)); exact ⟨by first | omega | (dsimp only; omega), by first | omega | (dsimp only; omega), his⟩)
          | ((with_reducible refine ELD.at (j) hr ?_ ?_ ?_ (fun x' hx' => ?_)); exact mAddr_Non _; (first | rfl | omega); exact hlt'; obtain rfl : x = x' := by (rw [hx] at hx'; exact Option.some.inj hx'))
          | ((with_reducible refine callX (g := 45) ?_ ?_); kernel_rfl; intro hX; refine ⟨_, l28Ready_c _ _ _ j xs _ _ _ x (hr.ext hX (mAddr_Non _)) hn hc hp hx (by omega) _ rfl hd hq, ?_⟩; intro w5 e5; have z5 := cutLe e5; replace hown := hown.e0 e5)
          | ((with_reducible refine BIF.beq ?_ ?_) <;> intro _)
          | ((with_reducible refine BIF.dec ?_ ?_) <;> intro _)
          | ((exfalso; omega))
          | ((with_reducible refine bsS elemI [.int .i64 x.fId] ?_ ?_ ?_ ?_ ?_); (focus rfl); (focus rfl); (focus (intro v hv; simp at hv; subst hv; rfl)); (focus omega); intro w9 e9 oB; have z9 := cutLe e9; try replace oC := oC.e0 e9)
          | ((with_reducible refine BIF.dec ?_ ?_) <;> intro _)
          | ((with_reducible refine BIF.s ?_ ?_) <;> intro _)
          | (with_reducible refine NEXTK.normal ?_)
          | (with_reducible refine NEXTK.ret ?_)
          | (with_reducible refine NEXTK.exit ?_)
          | (with_reducible refine SEQ.plain ?_)
          | (with_reducible refine hK _ _ ?_)
          | ((with_reducible refine RUNL.agg (fun _ => ?_) ?_); (focus kernel_rfl))
          | (with_reducible refine RUNL.run ?_)
          | ((with_reducible refine AR.ok ?_ ?_); exact ⟨by first | omega | (dsimp only; omega), by first | omega | (dsimp only; omega)⟩)
          | (with_reducible refine AR.wr ?_)
          | ((with_reducible intro w3 e3); try have z3 := cutLe e3)
          | ((with_reducible intro h3); have h4 := Nat.le_of_lt h3; clear h4)))
        conv => whnf
        replace hown := hown.e0 e9
        refine apS (ns := [encI x.fId]) elemI hown oB.row.1 rfl (by intro l hl; simp at hl; subst hl; rfl) ⟨by simp; omega, by simp; omega⟩ ⟨(by show w.heap.size ≤ _; omega), by omega⟩ trivial (fun v2 w2 x2 o2 => ?_)
        have z2 := cutLe x2
        replace o2 : Own w2 w.heap.size 3 1 v2 ((madeUp xs f d q (j + 1)).map encI) := by rw [ht, if_pos hmd]; simpa using o2
        obtain ⟨b2, d2, rfl, q2, p2⟩ := o2.rowx
        repeat (any_goals (
          conv => whnf
          first
          | ((with_reducible refine BIF.dec ?_ ?_) <;> intro _)
          | ((with_reducible refine BIF.s ?_ ?_) <;> intro _)
          | (with_reducible refine NEXTK.normal ?_)
          | (with_reducible refine NEXTK.ret ?_)
          | (with_reducible refine NEXTK.exit ?_)
          | (with_reducible refine SEQ.plain ?_)
          | (with_reducible refine hK _ _ ?_)
          | ((with_reducible refine RUNL.agg (fun _ => ?_) ?_); (focus kernel_rfl))
          | (with_reducible refine RUNL.run ?_)
          | ((with_reducible refine AR.ok ?_ ?_); exact ⟨by first | omega | (dsimp only; omega), by first | omega | (dsimp only; omega)⟩)
          | (with_reducible refine AR.wr ?_)
          | ((with_reducible intro w3 e3); try have z3 := cutLe e3)
          | ((with_reducible intro h3); have h4 := Nat.le_of_lt h3; clear h4)))
        refine ⟨(j + 1, (b2, _, d2)), rfl, ⟨rfl, rfl, trivial⟩, rfl, rfl, ⟨by omega, ?_, ?_⟩, by omega⟩
        · show w.heap.size ≤ w2.heap.size
          omega
        · exact o2
      · have hmd : ¬ isMade xs f d q j x = true := by simpa [isMade] using hxr
        repeat (any_goals (
          conv => whnf
          first
          | ((with_reducible refine OBL.mk ?_ (fun _ => ?_)); exact ⟨by first | omega | (dsimp only; omega), by first | omega | (dsimp only; omega), his⟩)
          | ((with_reducible refine ELD.at (j) hr ?_ ?_ ?_ (fun x' hx' => ?_)); exact mAddr_Non _; (first | rfl | omega); exact hlt'; obtain rfl : x = x' := by (rw [hx] at hx'; exact Option.some.inj hx'))
          | ((with_reducible refine callX (g := 45) ?_ ?_); kernel_rfl; intro hX; refine ⟨_, l28Ready_c _ _ _ j xs _ _ _ x (hr.ext hX (mAddr_Non _)) hn hc hp hx (by omega) _ rfl hd hq, ?_⟩; intro w5 e5; have z5 := cutLe e5; replace hown := hown.e0 e5)
          | ((with_reducible refine BIF.beq ?_ ?_) <;> intro _)
          | ((with_reducible refine BIF.dec ?_ ?_) <;> intro _)
          | ((exfalso; omega))
          | ((with_reducible refine bsS elemI [.int .i64 x.fId] ?_ ?_ ?_ ?_ ?_); (focus rfl); (focus rfl); (focus (intro v hv; simp at hv; subst hv; rfl)); (focus omega); intro w9 e9 oB; have z9 := cutLe e9; try replace oC := oC.e0 e9)
          | ((with_reducible refine BIF.dec ?_ ?_) <;> intro _)
          | ((with_reducible refine BIF.s ?_ ?_) <;> intro _)
          | (with_reducible refine NEXTK.normal ?_)
          | (with_reducible refine NEXTK.ret ?_)
          | (with_reducible refine NEXTK.exit ?_)
          | (with_reducible refine SEQ.plain ?_)
          | (with_reducible refine hK _ _ ?_)
          | ((with_reducible refine RUNL.agg (fun _ => ?_) ?_); (focus kernel_rfl))
          | (with_reducible refine RUNL.run ?_)
          | ((with_reducible refine AR.ok ?_ ?_); exact ⟨by first | omega | (dsimp only; omega), by first | omega | (dsimp only; omega)⟩)
          | (with_reducible refine AR.wr ?_)
          | ((with_reducible intro w3 e3); try have z3 := cutLe e3)
          | ((with_reducible intro h3); have h4 := Nat.le_of_lt h3; clear h4)))
        all_goals
          refine ⟨(j + 1, (b, m, e)), rfl, ⟨rfl, rfl, trivial⟩, rfl, rfl, ⟨by omega, ?_, ?_⟩, by omega⟩
          · first | exact hz | (show w.heap.size ≤ w5.heap.size; omega)
          · rw [ht, if_neg hmd]; simpa using hown
    · have hkj : j = n := by omega
      repeat (any_goals (
        conv => whnf
        first
        | ((with_reducible refine BIF.dec ?_ ?_) <;> intro _)
        | ((with_reducible refine BIF.s ?_ ?_) <;> intro _)
        | (with_reducible refine NEXTK.normal ?_)
        | (with_reducible refine NEXTK.ret ?_)
        | (with_reducible refine NEXTK.exit ?_)
        | (with_reducible refine SEQ.plain ?_)
        | (with_reducible refine hK _ _ ?_)
        | ((with_reducible refine RUNL.agg (fun _ => ?_) ?_); (focus kernel_rfl))
        | (with_reducible refine RUNL.run ?_)
        | ((with_reducible refine AR.ok ?_ ?_); exact ⟨by first | omega | (dsimp only; omega), by first | omega | (dsimp only; omega)⟩)
        | (with_reducible refine AR.wr ?_)
        | ((with_reducible intro w3 e3); try have z3 := cutLe e3)
        | ((with_reducible intro h3); have h4 := Nat.le_of_lt h3; clear h4)))
      intro hx'
      rw [hf]
      subst hkj
      exact ⟨_, rfl, hx', _, rfl, hown⟩
  · have hf : madeP xs f d q = ([], false) := by
      unfold madeP madeOk
      rw [if_neg]
      simpa [and_assoc] using ho
    repeat (any_goals (
      conv => whnf
      first
      | ((with_reducible refine callF (g := 32) ?_ ?_); kernel_rfl; refine ⟨_, l28Good_c _ _ _ xs _ (by repeat (first | assumption | refine Row.e0 ?_ (by assumption))) hn (by omega), ?_⟩; intro w4 e4; have z4 := cutLe e4)
      | ((with_reducible refine callF (g := 33) ?_ ?_); kernel_rfl; refine ⟨_, l2Day_c _ _, ?_⟩; intro w4 e4; have z4 := cutLe e4)
      | ((with_reducible refine callF (g := 36) ?_ ?_); kernel_rfl; refine ⟨_, l28Rate_c _ _, ?_⟩; intro w4 e4; have z4 := cutLe e4)
      | ((exfalso; simp_all; done))
      | ((with_reducible refine BIF.dec ?_ ?_) <;> intro _)
      | ((with_reducible refine BIF.s ?_ ?_) <;> intro _)
      | (with_reducible refine NEXTK.normal ?_)
      | (with_reducible refine NEXTK.ret ?_)
      | (with_reducible refine NEXTK.exit ?_)
      | (with_reducible refine SEQ.plain ?_)
      | (with_reducible refine hK _ _ ?_)
      | ((with_reducible refine RUNL.agg (fun _ => ?_) ?_); (focus kernel_rfl))
      | (with_reducible refine RUNL.run ?_)
      | ((with_reducible refine AR.ok ?_ ?_); exact ⟨by first | omega | (dsimp only; omega), by first | omega | (dsimp only; omega)⟩)
      | (with_reducible refine AR.wr ?_)
      | ((with_reducible intro w3 e3); try have z3 := cutLe e3)
      | ((with_reducible intro h3); have h4 := Nat.le_of_lt h3; clear h4)))
    all_goals
      intro hx'
      rw [hf]
      exact ⟨_, rfl, hx', _, rfl, (by clear hx'; repeat (first | exact o1 | exact o1.lo (by omega) | refine Own.e0 ?_ (by assumption)))⟩

end Go.Proofs.YtlhlbgnhnkfmgaaDoor

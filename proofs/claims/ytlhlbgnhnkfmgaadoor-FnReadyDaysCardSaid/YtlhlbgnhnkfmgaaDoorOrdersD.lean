/- LeastRate. -/
import Derived.Test.YtlhlbgnhnkfmgaaDoorRows
import Derived.Test.YtlhlbgnhnkfmgaaDoorOrdersC
namespace Go.Proofs.YtlhlbgnhnkfmgaaDoor
open Go Go.X Go.Proofs Go.ChangeShapes Go.WideShapes Go.ChangeAt Go.RowKit
open Go.ChangeMaps (open_string shut_string)
set_option maxHeartbeats 1000000
set_option maxRecDepth 20000
set_option linter.unusedVariables false
set_option linter.unusedSimpArgs false
def waitN (xs : List Ord) : Nat → Nat
  | 0 => 0
  | k + 1 => waitN xs k + (match xs[k]? with
    | some x => if x.fReady = -1 then 1 else 0
    | none => 0)
theorem waitN_at {xs : List Ord} {k : Nat} {x : Ord} (h : xs[k]? = some x) : waitN xs (k + 1) = waitN xs k + (if x.fReady = -1 then 1 else 0) := by
  simp [waitN, h]
theorem waitN_le (xs : List Ord) : ∀ k, waitN xs k ≤ k
  | 0 => Nat.le_refl _
  | k + 1 => by
    have := waitN_le xs k
    simp only [waitN]
    split
    · split <;> omega
    · omega
theorem ready_iff {f d q P : Int} (hP : 1 ≤ P) (hq : 1 ≤ q) : f + (P - 1).tdiv q ≤ d ↔ P ≤ (d - f + 1) * q := by
  rw [Int.tdiv_eq_ediv_of_nonneg (by omega)]
  have h := Int.ediv_lt_iff_lt_mul (a := P - 1) (b := d - f + 1) (c := q) (by omega)
  constructor
  · intro h1
    have := h.1 (by omega)
    omega
  · intro h1
    have := h.2 (by omega)
    omega
theorem made_eq {xs : List Ord} {f d q : Int} (hp : pagesOk xs) (hq : 1 ≤ q) : ∀ k, k ≤ xs.length → waitSum (xs.take k) ≤ (d - f + 1) * q → (madeUp xs f d q k).length = waitN xs k
  | 0, _, _ => rfl
  | k + 1, hk, h => by
    obtain ⟨x, hx⟩ : ∃ x, xs[k]? = some x := ⟨xs[k]'(by omega), by simp⟩
    have h1 := waitSum_take hx
    have h2 := (hp.2 x (List.mem_of_getElem? hx)).1
    rw [madeUp_at f d q hx, waitN_at hx, List.length_append]
    by_cases hw : x.fReady = -1
    · rw [if_pos hw] at h1
      rw [made_eq hp hq k (by omega) (by omega), if_pos hw]
      have hr : readyD xs k f q ≤ d := by
        unfold readyD
        exact (ready_iff (waitSum_pos hp hx hw).1 hq).2 h
      simp [isMade, hw, hr]
    · rw [if_neg hw] at h1
      rw [made_eq hp hq k (by omega) (by omega), if_neg hw]
      simp [isMade, hw]
theorem made_lt {xs : List Ord} {f d q : Int} (hp : pagesOk xs) (hq : 1 ≤ q) (hfd : f ≤ d) : ∀ k, k ≤ xs.length → (madeUp xs f d q k).length ≤ waitN xs k ∧ ((madeUp xs f d q k).length = waitN xs k → waitSum (xs.take k) ≤ (d - f + 1) * q)
  | 0, _ => by
    refine ⟨Nat.le_refl _, fun _ => ?_⟩
    simp only [List.take_zero, waitSum]
    exact Int.mul_nonneg (by omega) (by omega)
  | k + 1, hk => by
    obtain ⟨x, hx⟩ : ∃ x, xs[k]? = some x := ⟨xs[k]'(by omega), by simp⟩
    have h1 := waitSum_take hx
    obtain ⟨i1, i2⟩ := made_lt (xs := xs) (f := f) (d := d) (q := q) hp hq hfd k (by omega)
    rw [madeUp_at f d q hx, waitN_at hx, List.length_append]
    by_cases hw : x.fReady = -1
    · rw [if_pos hw]
      by_cases hr : readyD xs k f q ≤ d
      · simp only [isMade, hw, hr, decide_true, Bool.and_self, if_true, List.length_cons, List.length_nil]
        refine ⟨by omega, fun _ => ?_⟩
        unfold readyD at hr
        exact (ready_iff (waitSum_pos hp hx hw).1 hq).1 hr
      · simp only [isMade, hw, hr, decide_true, decide_false, Bool.and_false, Bool.false_eq_true, if_false, List.length_nil]
        exact ⟨by omega, fun h => by omega⟩
    · rw [if_neg hw] at h1 ⊢
      simp only [isMade, hw, decide_false, Bool.false_and, Bool.false_eq_true, if_false, List.length_nil]
      exact ⟨by omega, fun h => by have := i2 (by omega); omega⟩
def leastR (xs : List Ord) (f d : Int) : Int := max 1 ((waitSum xs + (d - f + 1) - 1).tdiv (d - f + 1))
theorem leastR_iff {xs : List Ord} {f d q : Int} (hp : pagesOk xs) (hq : 1 ≤ q) (hfd : f ≤ d) : (madeUp xs f d q xs.length).length = waitN xs xs.length ↔ leastR xs f d ≤ q := by
  have h0 : 0 ≤ waitSum xs := by have := (waitSum_le hp xs.length).1; rwa [List.take_length] at this
  have e1 : (madeUp xs f d q xs.length).length = waitN xs xs.length ↔ waitSum xs ≤ (d - f + 1) * q := by
    have h1 := made_eq (xs := xs) (f := f) (d := d) (q := q) hp hq xs.length (Nat.le_refl _)
    have h2 := made_lt (xs := xs) (f := f) (d := d) (q := q) hp hq hfd xs.length (Nat.le_refl _)
    rw [List.take_length] at h1 h2
    exact ⟨h2.2, h1⟩
  rw [e1]
  unfold leastR
  rw [Int.tdiv_eq_ediv_of_nonneg (by omega)]
  have h := Int.ediv_lt_iff_lt_mul (a := waitSum xs + (d - f + 1) - 1) (b := q + 1) (c := d - f + 1) (by omega)
  have e2 : (q + 1) * (d - f + 1) = (d - f + 1) * q + (d - f + 1) := by rw [Int.add_mul, Int.mul_comm q]; omega
  rw [e2] at h
  constructor
  · intro h1
    have := h.2 (by omega)
    omega
  · intro h1
    have := h.1 (by omega)
    omega
def leastOk (xs : List Ord) (f d : Int) : Bool := areO xs && inB f 0 4000 && inB d 0 4000 && decide (f ≤ d)
def leastP (xs : List Ord) (f d : Int) : Int × Bool := if leastOk xs f d && inB (leastR xs f d) 1 100 then (leastR xs f d, true) else (0, false)
theorem LeastRate_c (a : Option Addr) (n c : Nat) (xs : List Ord) (f d : Int) (w : World) (hr : Row w a 5 (xs.map encOrd)) (hn : xs.length = n) (hm : n ≤ 1048577) (hc : n ≤ c ∧ c < 9223372036854775808) :
    Calls Tryd.prog 10 #[.slice a n c, .int .i64 f, .int .i64 d] w fun e w' => e = .returned (.tuple #[.int .i64 (leastP xs f d).1, .bool (leastP xs f d).2]) ∧ E0 w w' := by
  refine enterK Non 45 Tryd.func10 rfl rfl rfl fun K hK => ?_
  by_cases ho : areO xs = true ∧ inB f 0 4000 = true ∧ inB d 0 4000 = true ∧ f ≤ d
  · have hp := areO_pages ho.1
    have hl := hp.1
    have hd := inB_iff.1 ho.2.1
    have hok : leastOk xs f d = true := by simp [leastOk, ho]
    repeat (any_goals (
      conv => whnf
      first
      | ((with_reducible refine callF (g := 28) ?_ ?_); kernel_rfl; refine ⟨_, AreOrders_c _ _ _ xs _ (by repeat (first | assumption | refine Row.e0 ?_ (by assumption))) hn (by omega), ?_⟩; intro w4 e4; have z4 := cutLe e4)
      | ((with_reducible refine callF (g := 29) ?_ ?_); kernel_rfl; refine ⟨_, areDays_c _ _ _, ?_⟩; intro w4 e4; have z4 := cutLe e4)
      | ((exfalso; clear hK; simp_all <;> omega))
      | ((with_reducible refine BIF.dec ?_ ?_) <;> intro _)
      | ((with_reducible refine BIF.s ?_ ?_) <;> intro _)
      | (with_reducible refine NEXTK.normal ?_)
      | (with_reducible refine NEXTK.ret ?_)
      | (with_reducible refine NEXTK.exit ?_)
      | (with_reducible refine SEQ.plain ?_)
      | (with_reducible refine hK _ _ ?_)
      | ((with_reducible refine RUNL.agg (fun _ => ?_) ?_); (focus kernel_rfl))
      | (with_reducible refine RUNL.run ?_)
      | ((with_reducible refine AR.ok ?_ ?_); exact ⟨by first | omega | (dsimp only; omega), by first | omega | (dsimp only; omega)⟩)
      | (with_reducible refine AR.wr ?_)
      | ((with_reducible intro w3 e3); try have z3 := cutLe e3)
      | ((with_reducible intro h3); have h4 := Nat.le_of_lt h3; clear h4)))
    conv => whnf
    refine LOOP.mk (Nat × Int) (fun g => [(23, .v (.int .i64 g.1)), (8, .v (.int .i64 g.2))]) (fun g _ => g.1 ≤ n ∧ g.2 = waitN xs g.1) (fun g => n - g.1) (0, 0) rfl ⟨rfl, rfl, trivial⟩ ⟨Nat.zero_le _, rfl⟩ ?_
    rintro ⟨j, s⟩ wr - ⟨hj, hs'⟩
    simp only at hj hs'
    have hwl := waitN_le xs j
    conv => whnf
    repeat (first | ((with_reducible refine NEXTK.normal ?_); conv => whnf) | ((with_reducible refine NEXTK.exit ?_); conv => whnf) | ((with_reducible refine NEXTK.ret ?_); conv => whnf) | ((with_reducible refine SEQ.plain ?_); conv => whnf) | ((with_reducible refine AR.ok ?_ ?_); exact ⟨by omega, by omega⟩; conv => whnf))
    refine BIF.dec (fun hlt => ?_) (fun hlt => ?_)
    · have hlt' : j < xs.length := by omega
      have his := hr.isSome (by simp; omega)
      obtain ⟨x, hx⟩ : ∃ x, xs[j]? = some x := ⟨xs[j]'(by omega), by simp⟩
      have ht := waitN_at hx
      by_cases hxr : x.fReady = -1
      · rw [if_pos hxr] at ht
        repeat (any_goals (
          conv => whnf
          first
          | ((with_reducible refine OBL.mk ?_ (fun _ => ?_)); exact ⟨by first | omega | (dsimp only; omega), by first | omega | (dsimp only; omega), his⟩)
          | ((with_reducible refine ELD.at (j) hr ?_ ?_ ?_ (fun x' hx' => ?_)); exact mAddr_Non _; (first | rfl | omega); exact hlt'; obtain rfl : x = x' := by (rw [hx] at hx'; exact Option.some.inj hx'))
          | ((with_reducible refine callF (g := 27) ?_ ?_); kernel_rfl; refine ⟨_, waits_c _ _, ?_⟩; intro w4 e4; have z4 := cutLe e4)
          | ((with_reducible refine BIF.dec ?_ ?_) <;> intro _)
          | ((exfalso; omega))
          | ((with_reducible refine BIF.dec ?_ ?_) <;> intro _)
          | ((with_reducible refine BIF.s ?_ ?_) <;> intro _)
          | (with_reducible refine NEXTK.normal ?_)
          | (with_reducible refine NEXTK.ret ?_)
          | (with_reducible refine NEXTK.exit ?_)
          | (with_reducible refine SEQ.plain ?_)
          | (with_reducible refine hK _ _ ?_)
          | ((with_reducible refine RUNL.agg (fun _ => ?_) ?_); (focus kernel_rfl))
          | (with_reducible refine RUNL.run ?_)
          | ((with_reducible refine AR.ok ?_ ?_); exact ⟨by first | omega | (dsimp only; omega), by first | omega | (dsimp only; omega)⟩)
          | (with_reducible refine AR.wr ?_)
          | ((with_reducible intro w3 e3); try have z3 := cutLe e3)
          | ((with_reducible intro h3); have h4 := Nat.le_of_lt h3; clear h4)))
        refine ⟨(j + 1, s + 1), rfl, ⟨rfl, rfl, trivial⟩, rfl, rfl, ⟨by omega, by simp only; omega⟩, by omega⟩
      · rw [if_neg hxr] at ht
        repeat (any_goals (
          conv => whnf
          first
          | ((with_reducible refine OBL.mk ?_ (fun _ => ?_)); exact ⟨by first | omega | (dsimp only; omega), by first | omega | (dsimp only; omega), his⟩)
          | ((with_reducible refine ELD.at (j) hr ?_ ?_ ?_ (fun x' hx' => ?_)); exact mAddr_Non _; (first | rfl | omega); exact hlt'; obtain rfl : x = x' := by (rw [hx] at hx'; exact Option.some.inj hx'))
          | ((with_reducible refine callF (g := 27) ?_ ?_); kernel_rfl; refine ⟨_, waits_c _ _, ?_⟩; intro w4 e4; have z4 := cutLe e4)
          | ((with_reducible refine BIF.dec ?_ ?_) <;> intro _)
          | ((exfalso; omega))
          | ((with_reducible refine BIF.dec ?_ ?_) <;> intro _)
          | ((with_reducible refine BIF.s ?_ ?_) <;> intro _)
          | (with_reducible refine NEXTK.normal ?_)
          | (with_reducible refine NEXTK.ret ?_)
          | (with_reducible refine NEXTK.exit ?_)
          | (with_reducible refine SEQ.plain ?_)
          | (with_reducible refine hK _ _ ?_)
          | ((with_reducible refine RUNL.agg (fun _ => ?_) ?_); (focus kernel_rfl))
          | (with_reducible refine RUNL.run ?_)
          | ((with_reducible refine AR.ok ?_ ?_); exact ⟨by first | omega | (dsimp only; omega), by first | omega | (dsimp only; omega)⟩)
          | (with_reducible refine AR.wr ?_)
          | ((with_reducible intro w3 e3); try have z3 := cutLe e3)
          | ((with_reducible intro h3); have h4 := Nat.le_of_lt h3; clear h4)))
        refine ⟨(j + 1, s), rfl, ⟨rfl, rfl, trivial⟩, rfl, rfl, ⟨by omega, by simp only; omega⟩, by omega⟩
    · have hkj : j = n := by omega
      subst hkj
      repeat (any_goals (
        conv => whnf
        first
        | ((with_reducible refine BIF.dec ?_ ?_) <;> intro _)
        | ((with_reducible refine BIF.s ?_ ?_) <;> intro _)
        | (with_reducible refine NEXTK.normal ?_)
        | (with_reducible refine NEXTK.ret ?_)
        | (with_reducible refine NEXTK.exit ?_)
        | (with_reducible refine SEQ.plain ?_)
        | (with_reducible refine hK _ _ ?_)
        | ((with_reducible refine RUNL.agg (fun _ => ?_) ?_); (focus kernel_rfl))
        | (with_reducible refine RUNL.run ?_)
        | ((with_reducible refine AR.ok ?_ ?_); exact ⟨by first | omega | (dsimp only; omega), by first | omega | (dsimp only; omega)⟩)
        | (with_reducible refine AR.wr ?_)
        | ((with_reducible intro w3 e3); try have z3 := cutLe e3)
        | ((with_reducible intro h3); have h4 := Nat.le_of_lt h3; clear h4)))
      conv => whnf
      refine LOOP.mk Nat (fun t => [(11, .v (.int .i64 ((t : Int) + 1)))]) (fun t _ => t ≤ 100 ∧ (t : Int) < leastR xs f d) (fun t => 101 - t) 0 rfl ⟨rfl, trivial⟩ ⟨by omega, by unfold leastR; omega⟩ ?_
      rintro t wt - ⟨ht, hlr⟩
      by_cases hin : inB ((t : Int) + 1) 1 100 = true
      · have hin2 := inB_iff.1 hin
        have hiff := leastR_iff (xs := xs) (f := f) (d := d) (q := (t : Int) + 1) hp (by omega) ho.2.2.2
        rw [hn] at hiff
        repeat (any_goals (
          conv => whnf
          first
          | ((with_reducible refine callF (g := 30) ?_ ?_); kernel_rfl; refine ⟨_, isRate_c _ _, ?_⟩; intro w4 e4; have z4 := cutLe e4)
          | ((with_reducible refine BIF.s ?_ ?_) <;> intro hbad)
          | ((exfalso; rw [hin] at hbad; exact absurd hbad (by decide)))
          | ((with_reducible refine BIF.dec ?_ ?_) <;> intro _)
          | ((with_reducible refine BIF.s ?_ ?_) <;> intro _)
          | (with_reducible refine NEXTK.normal ?_)
          | (with_reducible refine NEXTK.ret ?_)
          | (with_reducible refine NEXTK.exit ?_)
          | (with_reducible refine SEQ.plain ?_)
          | (with_reducible refine hK _ _ ?_)
          | ((with_reducible refine RUNL.agg (fun _ => ?_) ?_); (focus kernel_rfl))
          | (with_reducible refine RUNL.run ?_)
          | ((with_reducible refine AR.ok ?_ ?_); exact ⟨by first | omega | (dsimp only; omega), by first | omega | (dsimp only; omega)⟩)
          | (with_reducible refine AR.wr ?_)
          | ((with_reducible intro w3 e3); try have z3 := cutLe e3)
          | ((with_reducible intro h3); have h4 := Nat.le_of_lt h3; clear h4)))
        conv => whnf
        refine callY (g := 31) (by kernel_rfl) ⟨_, fun x => madeBy_c _ _ _ xs _ _ _ _ (hr.ext x (mAddr_Non _)) hn hc hp hd hin2, fun r w5 e5 o5 => ?_⟩
        obtain ⟨b5, d5, rfl, q5, p5⟩ := o5.rowx
        repeat (any_goals (
          conv => whnf
          first
          | ((with_reducible refine BIF.beq ?_ ?_) <;> intro hq)
          | ((with_reducible refine BIF.dec ?_ ?_) <;> intro _)
          | ((with_reducible refine BIF.s ?_ ?_) <;> intro _)
          | (with_reducible refine NEXTK.normal ?_)
          | (with_reducible refine NEXTK.ret ?_)
          | (with_reducible refine NEXTK.exit ?_)
          | (with_reducible refine SEQ.plain ?_)
          | (with_reducible refine hK _ _ ?_)
          | ((with_reducible refine RUNL.agg (fun _ => ?_) ?_); (focus kernel_rfl))
          | (with_reducible refine RUNL.run ?_)
          | ((with_reducible refine AR.ok ?_ ?_); exact ⟨by first | omega | (dsimp only; omega), by first | omega | (dsimp only; omega)⟩)
          | (with_reducible refine AR.wr ?_)
          | ((with_reducible intro w3 e3); try have z3 := cutLe e3)
          | ((with_reducible intro h3); have h4 := Nat.le_of_lt h3; clear h4)))
        · intro hx'
          refine ⟨?_, hx'⟩
          have e : leastR xs f d = (t : Int) + 1 := by
            have := hiff.1 (by omega)
            omega
          have : leastP xs f d = ((t : Int) + 1, true) := by unfold leastP; rw [hok, e, hin]; rfl
          rw [this]; rfl
        · refine ⟨t + 1, rfl, ⟨?_, trivial⟩, rfl, rfl, ⟨by omega, ?_⟩, by omega⟩
          · simp [lk, Nat.beq]
          · have : ¬ leastR xs f d ≤ (t : Int) + 1 := fun h => hq (by have := hiff.2 h; omega)
            omega
      · have ht100 : t = 100 := by
          have : ¬ (1 ≤ (t : Int) + 1 ∧ (t : Int) + 1 ≤ 100) := fun h => hin (inB_iff.2 h)
          omega
        have hin' : inB ((t : Int) + 1) 1 100 = false := by simpa using hin
        repeat (any_goals (
          conv => whnf
          first
          | ((with_reducible refine callF (g := 30) ?_ ?_); kernel_rfl; refine ⟨_, isRate_c _ _, ?_⟩; intro w4 e4; have z4 := cutLe e4)
          | ((with_reducible refine BIF.s ?_ ?_) <;> intro hbad)
          | ((exfalso; rw [hin'] at hbad; exact absurd hbad (by decide)))
          | ((with_reducible refine BIF.dec ?_ ?_) <;> intro _)
          | ((with_reducible refine BIF.s ?_ ?_) <;> intro _)
          | (with_reducible refine NEXTK.normal ?_)
          | (with_reducible refine NEXTK.ret ?_)
          | (with_reducible refine NEXTK.exit ?_)
          | (with_reducible refine SEQ.plain ?_)
          | (with_reducible refine hK _ _ ?_)
          | ((with_reducible refine RUNL.agg (fun _ => ?_) ?_); (focus kernel_rfl))
          | (with_reducible refine RUNL.run ?_)
          | ((with_reducible refine AR.ok ?_ ?_); exact ⟨by first | omega | (dsimp only; omega), by first | omega | (dsimp only; omega)⟩)
          | (with_reducible refine AR.wr ?_)
          | ((with_reducible intro w3 e3); try have z3 := cutLe e3)
          | ((with_reducible intro h3); have h4 := Nat.le_of_lt h3; clear h4)))
        intro hx'
        refine ⟨?_, hx'⟩
        have : leastP xs f d = (0, false) := by
          unfold leastP
          rw [if_neg]
          intro h
          simp only [Bool.and_eq_true] at h
          have := inB_iff.1 h.2
          omega
        rw [this]; rfl
  · have hok : leastOk xs f d = false := by
      cases h : leastOk xs f d with
      | false => rfl
      | true => exact absurd (by simpa [leastOk, and_assoc] using h) ho
    have hf : leastP xs f d = (0, false) := by simp [leastP, hok]
    have hbad : areO xs = false ∨ inB f 0 4000 = false ∨ inB d 0 4000 = false ∨ ¬ f ≤ d := by
      by_cases h1 : areO xs = true
      · by_cases h2 : inB f 0 4000 = true
        · by_cases h3 : inB d 0 4000 = true
          · exact .inr (.inr (.inr fun h4 => ho ⟨h1, h2, h3, h4⟩))
          · exact .inr (.inr (.inl (by simpa using h3)))
        · exact .inr (.inl (by simpa using h2))
      · exact .inl (by simpa using h1)
    clear ho hok
    repeat (any_goals (
      conv => whnf
      first
      | ((with_reducible refine callF (g := 28) ?_ ?_); kernel_rfl; refine ⟨_, AreOrders_c _ _ _ xs _ (by repeat (first | assumption | refine Row.e0 ?_ (by assumption))) hn (by omega), ?_⟩; intro w4 e4; have z4 := cutLe e4)
      | ((with_reducible refine callF (g := 29) ?_ ?_); kernel_rfl; refine ⟨_, areDays_c _ _ _, ?_⟩; intro w4 e4; have z4 := cutLe e4)
      | ((exfalso; clear hK hf; rcases hbad with h | h | h | h <;> simp_all <;> omega))
      | ((with_reducible refine BIF.dec ?_ ?_) <;> intro _)
      | ((with_reducible refine BIF.s ?_ ?_) <;> intro _)
      | (with_reducible refine NEXTK.normal ?_)
      | (with_reducible refine NEXTK.ret ?_)
      | (with_reducible refine NEXTK.exit ?_)
      | (with_reducible refine SEQ.plain ?_)
      | (with_reducible refine hK _ _ ?_)
      | ((with_reducible refine RUNL.agg (fun _ => ?_) ?_); (focus kernel_rfl))
      | (with_reducible refine RUNL.run ?_)
      | ((with_reducible refine AR.ok ?_ ?_); exact ⟨by first | omega | (dsimp only; omega), by first | omega | (dsimp only; omega)⟩)
      | (with_reducible refine AR.wr ?_)
      | ((with_reducible intro w3 e3); try have z3 := cutLe e3)
      | ((with_reducible intro h3); have h4 := Nat.le_of_lt h3; clear h4)))
    all_goals
      intro hx'
      rw [hf]
      exact ⟨rfl, hx'⟩
theorem LeastRateS_c (a : Option Addr) (n c : Nat) (xs : List Ord) (f d : Int) (w : World) (hr : Row w a 5 (xs.map encOrd)) (hn : xs.length = n) (hm : n ≤ 1048577) :
    Calls Tryd.prog 11 #[.slice a n c, .int .i64 f, .int .i64 d] w fun e w' => e = .returned (.tuple #[.int .i64 (leastP xs f d).1, .bool (leastP xs f d).2]) ∧ E0 w w' := by
  refine enterK Non 44 Tryd.func11 rfl rfl rfl fun K hK => ?_
  by_cases ho : areO xs = true ∧ inB f 0 4000 = true ∧ inB d 0 4000 = true ∧ f ≤ d
  · have hp := areO_pages ho.1
    have hl := hp.1
    have hd := inB_iff.1 ho.2.1
    have hd2 := inB_iff.1 ho.2.2.1
    have hfd := ho.2.2.2
    have hok : leastOk xs f d = true := by simp [leastOk, ho]
    have hs : 0 ≤ waitSum xs ∧ waitSum xs ≤ 600 := by have := waitSum_le hp xs.length; rwa [List.take_length] at this
    have hq := tdiv_pos (p := waitSum xs + (d - f + 1) - 1) (r := d - f + 1) (by omega) (by omega)
    repeat (any_goals (
      conv => whnf
      first
      | ((with_reducible refine callF (g := 32) ?_ ?_); kernel_rfl; refine ⟨_, l28Good_c _ _ _ xs _ (by repeat (first | assumption | refine Row.e0 ?_ (by assumption))) hn (by omega), ?_⟩; intro w4 e4; have z4 := cutLe e4)
      | ((with_reducible refine callF (g := 33) ?_ ?_); kernel_rfl; refine ⟨_, l2Day_c _ _, ?_⟩; intro w4 e4; have z4 := cutLe e4)
      | ((with_reducible refine callF (g := 36) ?_ ?_); kernel_rfl; refine ⟨_, l28Rate_c _ _, ?_⟩; intro w4 e4; have z4 := cutLe e4)
      | ((exfalso; clear hK; simp_all <;> omega))
      | ((exfalso; omega))
      | ((with_reducible refine callF (g := 35) ?_ ?_); kernel_rfl; refine ⟨_, l28Pages_c _ _ _ xs _ (by repeat (first | assumption | refine Row.e0 ?_ (by assumption))) hn hp, ?_⟩; intro w4 e4; have z4 := cutLe e4)
      | ((with_reducible refine callF (g := 34) ?_ ?_); kernel_rfl; refine ⟨_, l1Most_c _ _ _, ?_⟩; intro w4 e4; have z4 := cutLe e4)
      | ((with_reducible refine OBL.mk ?_ (fun _ => ?_)); omega)
      | ((with_reducible refine BIF.dec ?_ ?_) <;> intro _)
      | ((with_reducible refine BIF.s ?_ ?_) <;> intro _)
      | (with_reducible refine NEXTK.normal ?_)
      | (with_reducible refine NEXTK.ret ?_)
      | (with_reducible refine NEXTK.exit ?_)
      | (with_reducible refine SEQ.plain ?_)
      | (with_reducible refine hK _ _ ?_)
      | ((with_reducible refine RUNL.agg (fun _ => ?_) ?_); (focus kernel_rfl))
      | (with_reducible refine RUNL.run ?_)
      | ((with_reducible refine AR.ok ?_ ?_); exact ⟨by first | omega | (dsimp only; omega), by first | omega | (dsimp only; omega)⟩)
      | (with_reducible refine AR.wr ?_)
      | ((with_reducible intro w3 e3); try have z3 := cutLe e3)
      | ((with_reducible intro h3); have h4 := Nat.le_of_lt h3; clear h4)))
    all_goals
      rename_i hb
      intro hx'
      refine ⟨?_, hx'⟩
      unfold leastP leastR
      rw [hok]
      simp_all [resV]
  · have hok : leastOk xs f d = false := by
      cases h : leastOk xs f d with
      | false => rfl
      | true => exact absurd (by simpa [leastOk, and_assoc] using h) ho
    have hf : leastP xs f d = (0, false) := by simp [leastP, hok]
    have hbad : areO xs = false ∨ inB f 0 4000 = false ∨ inB d 0 4000 = false ∨ ¬ f ≤ d := by
      by_cases h1 : areO xs = true
      · by_cases h2 : inB f 0 4000 = true
        · by_cases h3 : inB d 0 4000 = true
          · exact .inr (.inr (.inr fun h4 => ho ⟨h1, h2, h3, h4⟩))
          · exact .inr (.inr (.inl (by simpa using h3)))
        · exact .inr (.inl (by simpa using h2))
      · exact .inl (by simpa using h1)
    clear ho hok
    repeat (any_goals (
      conv => whnf
      first
      | ((with_reducible refine callF (g := 32) ?_ ?_); kernel_rfl; refine ⟨_, l28Good_c _ _ _ xs _ (by repeat (first | assumption | refine Row.e0 ?_ (by assumption))) hn (by omega), ?_⟩; intro w4 e4; have z4 := cutLe e4)
      | ((with_reducible refine callF (g := 33) ?_ ?_); kernel_rfl; refine ⟨_, l2Day_c _ _, ?_⟩; intro w4 e4; have z4 := cutLe e4)
      | ((with_reducible refine callF (g := 36) ?_ ?_); kernel_rfl; refine ⟨_, l28Rate_c _ _, ?_⟩; intro w4 e4; have z4 := cutLe e4)
      | ((exfalso; clear hK hf; rcases hbad with h | h | h | h <;> simp_all <;> omega))
      | ((exfalso; omega))
      | ((with_reducible refine BIF.dec ?_ ?_) <;> intro _)
      | ((with_reducible refine BIF.s ?_ ?_) <;> intro _)
      | (with_reducible refine NEXTK.normal ?_)
      | (with_reducible refine NEXTK.ret ?_)
      | (with_reducible refine NEXTK.exit ?_)
      | (with_reducible refine SEQ.plain ?_)
      | (with_reducible refine hK _ _ ?_)
      | ((with_reducible refine RUNL.agg (fun _ => ?_) ?_); (focus kernel_rfl))
      | (with_reducible refine RUNL.run ?_)
      | ((with_reducible refine AR.ok ?_ ?_); exact ⟨by first | omega | (dsimp only; omega), by first | omega | (dsimp only; omega)⟩)
      | (with_reducible refine AR.wr ?_)
      | ((with_reducible intro w3 e3); try have z3 := cutLe e3)
      | ((with_reducible intro h3); have h4 := Nat.le_of_lt h3; clear h4)))
    all_goals
      intro hx'
      rw [hf]
      exact ⟨rfl, hx'⟩

end Go.Proofs.YtlhlbgnhnkfmgaaDoor

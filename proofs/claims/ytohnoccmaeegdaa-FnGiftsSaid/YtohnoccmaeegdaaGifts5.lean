/- The gifts that wait for thanks. -/
import Derived.Test.YtohnoccmaeegdaaRows
import Derived.Test.YtohnoccmaeegdaaGifts3
namespace Go.Proofs.Ytohnoccmaeegdaa
open Go Go.X Go.Proofs Go.ChangeShapes Go.WideShapes Go.ChangeAt Go.RowKit
open Go.ChangeMaps (open_string shut_string)
set_option maxHeartbeats 1000000
set_option maxRecDepth 20000
set_option linter.unusedVariables false
set_option linter.unusedSimpArgs false
def thB (d : Int) (x : Gft) : Bool := !decide (x.fThanks = -1) && decide (x.fThanks ≤ d)
def waitG (d : Int) (x : Gft) : Int := if thB d x then x.fThanks - x.fDay else d - x.fDay
theorem isThanked_c (x : Gft) (d : Int) (w : World) : Calls Try.prog 45 #[.agg (encGft x).toArray, .int .i64 d] w fun e w' => e = .returned (.bool (thB d x)) ∧ E0 w w' := by
  refine enterK Non 14 Try.func45 rfl rfl rfl fun K hK => ?_
  repeat (any_goals (
    conv => whnf
    first
    | ((with_reducible refine BIF.bne ?_ ?_) <;> intro _)
    | ((with_reducible refine BIF.dec ?_ ?_) <;> intro _)
    | ((with_reducible refine BIF.s ?_ ?_) <;> intro _)
    | (with_reducible refine NEXTK.normal ?_)
    | (with_reducible refine NEXTK.ret ?_)
    | (with_reducible refine NEXTK.exit ?_)
    | (with_reducible refine SEQ.plain ?_)
    | (with_reducible refine hK _ _ ?_)
    | ((with_reducible refine RUNL.agg (fun _ => ?_) ?_); (focus kernel_rfl))
    | (with_reducible refine RUNL.run ?_)
    | ((with_reducible refine AR.ok ?_ ?_); exact ⟨by first | omega | (dsimp only; omega), by first | omega | (dsimp only; omega)⟩)
    | (with_reducible refine AR.wr ?_)
    | ((with_reducible intro w3 e3); try have z3 := cutLe e3)
    | ((with_reducible intro h3); have h4 := Nat.le_of_lt h3; clear h4)))
  all_goals
    intro hx
    refine ⟨?_, hx⟩
    clear hK
    simp_all [resV, thB]
theorem wait_c (x : Gft) (d : Int) (w : World) (hok : okG x = true) (hd : 0 ≤ d ∧ d ≤ 4000) : Calls Try.prog 46 #[.agg (encGft x).toArray, .int .i64 d] w fun e w' => e = .returned (.int .i64 (waitG d x)) ∧ E0 w w' := by
  have h := okG_spec hok
  refine enterK Non 17 Try.func46 rfl rfl rfl fun K hK => ?_
  repeat (any_goals (
    conv => whnf
    first
    | ((with_reducible refine callF (g := 45) ?_ ?_); kernel_rfl; refine ⟨_, isThanked_c _ _ _, ?_⟩; intro w4 e4; have z4 := cutLe e4)
    | ((with_reducible refine BIF.s ?_ ?_) <;> intro hth)
    | ((with_reducible refine BIF.dec ?_ ?_) <;> intro _)
    | ((with_reducible refine BIF.s ?_ ?_) <;> intro _)
    | (with_reducible refine NEXTK.normal ?_)
    | (with_reducible refine NEXTK.ret ?_)
    | (with_reducible refine NEXTK.exit ?_)
    | (with_reducible refine SEQ.plain ?_)
    | (with_reducible refine hK _ _ ?_)
    | ((with_reducible refine RUNL.agg (fun _ => ?_) ?_); (focus kernel_rfl))
    | (with_reducible refine RUNL.run ?_)
    | ((with_reducible refine AR.ok ?_ ?_); exact ⟨by first | omega | (dsimp only; omega), by first | omega | (dsimp only; omega)⟩)
    | (with_reducible refine AR.wr ?_)
    | ((with_reducible intro w3 e3); try have z3 := cutLe e3)
    | ((with_reducible intro h3); have h4 := Nat.le_of_lt h3; clear h4)))
  all_goals
    intro hx
    refine ⟨?_, hx⟩
    unfold waitG
    rw [hth]; rfl
theorem l26Open_c (x : Gft) (d : Int) (w : World) : Calls Try.prog 52 #[.agg (encGft x).toArray, .int .i64 d] w fun e w' => e = .returned (.bool (!thB d x)) ∧ E0 w w' := by
  refine enterK Non 14 Try.func52 rfl rfl rfl fun K hK => ?_
  repeat (any_goals (
    conv => whnf
    first
    | ((with_reducible refine BIF.beq ?_ ?_) <;> intro _)
    | ((with_reducible refine BIF.dec ?_ ?_) <;> intro _)
    | ((with_reducible refine BIF.s ?_ ?_) <;> intro _)
    | (with_reducible refine NEXTK.normal ?_)
    | (with_reducible refine NEXTK.ret ?_)
    | (with_reducible refine NEXTK.exit ?_)
    | (with_reducible refine SEQ.plain ?_)
    | (with_reducible refine hK _ _ ?_)
    | ((with_reducible refine RUNL.agg (fun _ => ?_) ?_); (focus kernel_rfl))
    | (with_reducible refine RUNL.run ?_)
    | ((with_reducible refine AR.ok ?_ ?_); exact ⟨by first | omega | (dsimp only; omega), by first | omega | (dsimp only; omega)⟩)
    | (with_reducible refine AR.wr ?_)
    | ((with_reducible intro w3 e3); try have z3 := cutLe e3)
    | ((with_reducible intro h3); have h4 := Nat.le_of_lt h3; clear h4)))
  all_goals
    intro hx
    refine ⟨?_, hx⟩
    clear hK
    unfold thB
    first
    | (simp_all [resV]; done)
    | (simp only [resV]; congr 1; by_cases h : x.fThanks ≤ d <;> simp_all <;> omega)
theorem l26Wait_c (x : Gft) (d : Int) (w : World) (hok : okG x = true) (hd : 0 ≤ d ∧ d ≤ 4000) : Calls Try.prog 53 #[.agg (encGft x).toArray, .int .i64 d] w fun e w' => e = .returned (.int .i64 (waitG d x)) ∧ E0 w w' := by
  have h := okG_spec hok
  refine enterK Non 17 Try.func53 rfl rfl rfl fun K hK => ?_
  repeat (any_goals (
    conv => whnf
    first
    | ((with_reducible refine callF (g := 52) ?_ ?_); kernel_rfl; refine ⟨_, l26Open_c _ _ _, ?_⟩; intro w4 e4; have z4 := cutLe e4)
    | ((with_reducible refine BIF.s ?_ ?_) <;> intro hth)
    | ((with_reducible refine BIF.dec ?_ ?_) <;> intro _)
    | ((with_reducible refine BIF.s ?_ ?_) <;> intro _)
    | (with_reducible refine NEXTK.normal ?_)
    | (with_reducible refine NEXTK.ret ?_)
    | (with_reducible refine NEXTK.exit ?_)
    | (with_reducible refine SEQ.plain ?_)
    | (with_reducible refine hK _ _ ?_)
    | ((with_reducible refine RUNL.agg (fun _ => ?_) ?_); (focus kernel_rfl))
    | (with_reducible refine RUNL.run ?_)
    | ((with_reducible refine AR.ok ?_ ?_); exact ⟨by first | omega | (dsimp only; omega), by first | omega | (dsimp only; omega)⟩)
    | (with_reducible refine AR.wr ?_)
    | ((with_reducible intro w3 e3); try have z3 := cutLe e3)
    | ((with_reducible intro h3); have h4 := Nat.le_of_lt h3; clear h4)))
  all_goals
    intro hx
    refine ⟨?_, hx⟩
    unfold waitG
    clear hK
    first
    | (rw [show thB d x = false by simpa using hth]; rfl)
    | (rw [show thB d x = true by simpa using hth]; rfl)
def unthB (d m : Int) (x : Gft) : Bool := decide (x.fDay ≤ d) && !thB d x && decide (m ≤ waitG d x)
def unthOf (d m : Int) (xs : List Gft) : List Int := (xs.filter (unthB d m)).map (·.fId)
theorem unthOf_take (d m : Int) {xs : List Gft} {k : Nat} {x : Gft} (h : xs[k]? = some x) : unthOf d m (xs.take (k + 1)) = unthOf d m (xs.take k) ++ (if unthB d m x = true then [x.fId] else []) := by
  rw [List.take_add_one, h]
  simp only [unthOf, Option.toList_some, List.filter_append, List.map_append]
  congr 1
  by_cases hx : unthB d m x = true <;> simp [hx]
theorem unthOf_len (d m : Int) (xs : List Gft) : (unthOf d m xs).length ≤ xs.length := by
  simp [unthOf, List.length_filter_le]
def unthOk (xs : List Gft) (d m : Int) : Bool := areG xs && inB d 0 4000 && inB m 0 4000
def unthP (xs : List Gft) (d m : Int) : List Int × Bool := if unthOk xs d m then (unthOf d m xs, true) else ([], false)
theorem unthP_len (xs : List Gft) (d m : Int) : (unthP xs d m).1.length ≤ xs.length := by
  unfold unthP
  split
  · exact unthOf_len d m xs
  · simp
theorem Unthanked_c (a : Option Addr) (n c : Nat) (xs : List Gft) (d q : Int) (w : World) (hr : Row w a 5 (xs.map encGft)) (hn : xs.length = n) (hm : n ≤ 1048577) :
    Calls Try.prog 11 #[.slice a n c, .int .i64 d, .int .i64 q] w fun e w' => ∃ v, e = .returned v ∧ E0 w w' ∧ ∃ s, v = .tuple #[s, .bool (unthP xs d q).2] ∧ Own w' w.heap.size 3 1 s ((unthP xs d q).1.map encI) := by
  refine enterK Non 54 Try.func11 rfl rfl rfl fun K hK => ?_
  by_cases ho : areG xs = true ∧ inB d 0 4000 = true ∧ inB q 0 4000 = true
  · have hf : unthP xs d q = (unthOf d q xs, true) := by simp [unthP, unthOk, ho]
    have hl := areG_len ho.1
    have hd := inB_iff.1 ho.2.1
    repeat (any_goals (
      conv => whnf
      first
      | ((with_reducible refine callF (g := 22) ?_ ?_); kernel_rfl; refine ⟨_, AreGifts_c _ _ _ xs _ (by repeat (first | assumption | refine Row.e0 ?_ (by assumption))) hn (by omega), ?_⟩; intro w4 e4; have z4 := cutLe e4)
      | ((with_reducible refine callF (g := 43) ?_ ?_); kernel_rfl; refine ⟨_, isDay_c _ _, ?_⟩; intro w4 e4; have z4 := cutLe e4)
      | ((with_reducible refine callF (g := 44) ?_ ?_); kernel_rfl; refine ⟨_, within_c _ _ _ _, ?_⟩; intro w4 e4; have z4 := cutLe e4)
      | ((exfalso; clear hK; simp_all; done))
      | ((with_reducible refine BIF.dec ?_ ?_) <;> intro _)
      | ((with_reducible refine BIF.s ?_ ?_) <;> intro _)
      | (with_reducible refine NEXTK.normal ?_)
      | (with_reducible refine NEXTK.ret ?_)
      | (with_reducible refine NEXTK.exit ?_)
      | (with_reducible refine SEQ.plain ?_)
      | (with_reducible refine hK _ _ ?_)
      | ((with_reducible refine RUNL.agg (fun _ => ?_) ?_); (focus kernel_rfl))
      | (with_reducible refine RUNL.run ?_)
      | ((with_reducible refine AR.ok ?_ ?_); exact ⟨by first | omega | (dsimp only; omega), by first | omega | (dsimp only; omega)⟩)
      | (with_reducible refine AR.wr ?_)
      | ((with_reducible intro w3 e3); try have z3 := cutLe e3)
      | ((with_reducible intro h3); have h4 := Nat.le_of_lt h3; clear h4)))
    conv => whnf
    refine LOOP.mk (Nat × (Option Addr × Nat × Nat)) (fun g => [(26, .v (.int .i64 g.1)), (8, .v (.slice g.2.1 g.2.2.1 g.2.2.2))])
      (fun g wr => g.1 ≤ n ∧ w.heap.size ≤ wr.heap.size ∧ Own wr w.heap.size 3 1 (.slice g.2.1 g.2.2.1 g.2.2.2) ((unthOf d q (xs.take g.1)).map encI)) (fun g => n - g.1) (0, (none, 0, 0)) rfl ⟨rfl, rfl, trivial⟩ ⟨Nat.zero_le _, by show w.heap.size ≤ w4.heap.size; omega, Own.nil _ _ _ _⟩ ?_
    rintro ⟨j, ⟨b, m, e⟩⟩ wr - ⟨hj, hz, hown⟩
    simp only at hj hz hown
    have oL := fun k h => hown.block (k := k) h
    have hml := hown.row.2
    conv => whnf
    repeat (first | ((with_reducible refine NEXTK.normal ?_); conv => whnf) | ((with_reducible refine NEXTK.exit ?_); conv => whnf) | ((with_reducible refine NEXTK.ret ?_); conv => whnf) | ((with_reducible refine SEQ.plain ?_); conv => whnf) | ((with_reducible refine AR.ok ?_ ?_); exact ⟨by omega, by omega⟩; conv => whnf))
    refine BIF.dec (fun hlt => ?_) (fun hlt => ?_)
    · have hlt' : j < xs.length := by simp only at hlt; omega
      have his := hr.isSome (by simp; omega)
      obtain ⟨x, hx⟩ : ∃ x, xs[j]? = some x := ⟨xs[j]'(by omega), by simp⟩
      have hok := areG_at ho.1 hx
      have ht := unthOf_take d q hx
      have hil := unthOf_len d q (xs.take j)
      have hil2 : (unthOf d q (xs.take j)).length ≤ 12 := by simp at hil; omega
      by_cases hxr : x.fDay ≤ d ∧ thB d x = false ∧ q ≤ waitG d x
      · have hub : unthB d q x = true := by simp [unthB, hxr]
        have hth := hxr.2.1
        have h1 := hxr.1
        have h2 := hxr.2.2
        repeat (any_goals (
          conv => whnf
          first
          | ((with_reducible refine OBL.mk ?_ (fun _ => ?_)); exact ⟨by first | omega | (dsimp only; omega), by first | omega | (dsimp only; omega), his⟩)
          | ((with_reducible refine ELD.at (j) hr ?_ ?_ ?_ (fun x' hx' => ?_)); exact mAddr_Non _; (first | rfl | omega); exact hlt'; obtain rfl : x = x' := by (rw [hx] at hx'; exact Option.some.inj hx'))
          | ((with_reducible intro w3 e3); have z3 := cutLe e3; replace hown := hown.ext e3 (by first | exact fun _ _ h => h | (intro k hk h; have hh := oL k hk; simp only [bk] at h; omega)))
          | ((with_reducible refine callF (g := 45) ?_ ?_); kernel_rfl; refine ⟨_, isThanked_c _ _ _, ?_⟩; intro w4 e4; have z4 := cutLe e4; replace hown := hown.e0 e4)
          | ((with_reducible refine callF (g := 46) ?_ ?_); kernel_rfl; refine ⟨_, wait_c _ _ _ hok hd, ?_⟩; intro w4 e4; have z4 := cutLe e4; replace hown := hown.e0 e4)
          | ((with_reducible refine BIF.dec ?_ ?_) <;> intro _)
          | ((with_reducible refine BIF.s ?_ ?_) <;> intro hbs)
          | ((exfalso; omega))
          | ((exfalso; rw [hth] at hbs; exact absurd hbs (by decide)))
          | ((with_reducible refine bsS elemI [.int .i64 x.fId] ?_ ?_ ?_ ?_ ?_); (focus rfl); (focus rfl); (focus (intro v hv; simp at hv; subst hv; rfl)); (focus omega); intro w9 e9 oB; have z9 := cutLe e9; (try replace oC := oC.e0 e9))
          | ((with_reducible refine BIF.dec ?_ ?_) <;> intro _)
          | ((with_reducible refine BIF.s ?_ ?_) <;> intro _)
          | (with_reducible refine NEXTK.normal ?_)
          | (with_reducible refine NEXTK.ret ?_)
          | (with_reducible refine NEXTK.exit ?_)
          | (with_reducible refine SEQ.plain ?_)
          | (with_reducible refine hK _ _ ?_)
          | ((with_reducible refine RUNL.agg (fun _ => ?_) ?_); (focus kernel_rfl))
          | (with_reducible refine RUNL.run ?_)
          | ((with_reducible refine AR.ok ?_ ?_); exact ⟨by first | omega | (dsimp only; omega), by first | omega | (dsimp only; omega)⟩)
          | (with_reducible refine AR.wr ?_)
          | ((with_reducible intro w3 e3); try have z3 := cutLe e3)
          | ((with_reducible intro h3); have h4 := Nat.le_of_lt h3; clear h4)))
        conv => whnf
        replace hown := hown.e0 e9
        refine apS (ns := [encI x.fId]) elemI hown oB.row.1 rfl (by intro l hl; simp at hl; subst hl; rfl) ⟨by simp; omega, by simp; omega⟩ ⟨(by show w.heap.size ≤ _; omega), by omega⟩ ⟨fun h => by have := (oL _ h).2; dsimp only at this; omega, trivial⟩ (fun v2 w2 x2 o2 => ?_)
        have z2 := cutLe x2
        replace o2 : Own w2 w.heap.size 3 1 v2 ((unthOf d q (xs.take (j + 1))).map encI) := by rw [ht, if_pos hub]; simpa using o2
        obtain ⟨b2, d2, rfl, q2, p2⟩ := o2.rowx
        repeat (any_goals (
          conv => whnf
          first
          | ((with_reducible refine BIF.dec ?_ ?_) <;> intro _)
          | ((with_reducible refine BIF.s ?_ ?_) <;> intro _)
          | (with_reducible refine NEXTK.normal ?_)
          | (with_reducible refine NEXTK.ret ?_)
          | (with_reducible refine NEXTK.exit ?_)
          | (with_reducible refine SEQ.plain ?_)
          | (with_reducible refine hK _ _ ?_)
          | ((with_reducible refine RUNL.agg (fun _ => ?_) ?_); (focus kernel_rfl))
          | (with_reducible refine RUNL.run ?_)
          | ((with_reducible refine AR.ok ?_ ?_); exact ⟨by first | omega | (dsimp only; omega), by first | omega | (dsimp only; omega)⟩)
          | (with_reducible refine AR.wr ?_)
          | ((with_reducible intro w3 e3); try have z3 := cutLe e3)
          | ((with_reducible intro h3); have h4 := Nat.le_of_lt h3; clear h4)))
        refine ⟨(j + 1, (b2, _, d2)), rfl, ⟨rfl, rfl, trivial⟩, rfl, rfl, ⟨by simp only; omega, ?_, o2⟩, by simp only; omega⟩
        show w.heap.size ≤ w2.heap.size
        omega
      · have hub : ¬ unthB d q x = true := by
          intro h
          simp only [unthB, Bool.and_eq_true, decide_eq_true_eq, Bool.not_eq_true'] at h
          exact hxr ⟨h.1.1, h.1.2, h.2⟩
        repeat (any_goals (
          conv => whnf
          first
          | ((with_reducible refine OBL.mk ?_ (fun _ => ?_)); exact ⟨by first | omega | (dsimp only; omega), by first | omega | (dsimp only; omega), his⟩)
          | ((with_reducible refine ELD.at (j) hr ?_ ?_ ?_ (fun x' hx' => ?_)); exact mAddr_Non _; (first | rfl | omega); exact hlt'; obtain rfl : x = x' := by (rw [hx] at hx'; exact Option.some.inj hx'))
          | ((with_reducible intro w3 e3); have z3 := cutLe e3; replace hown := hown.ext e3 (by first | exact fun _ _ h => h | (intro k hk h; have hh := oL k hk; simp only [bk] at h; omega)))
          | ((with_reducible refine callF (g := 45) ?_ ?_); kernel_rfl; refine ⟨_, isThanked_c _ _ _, ?_⟩; intro w4 e4; have z4 := cutLe e4; replace hown := hown.e0 e4)
          | ((with_reducible refine callF (g := 46) ?_ ?_); kernel_rfl; refine ⟨_, wait_c _ _ _ hok hd, ?_⟩; intro w4 e4; have z4 := cutLe e4; replace hown := hown.e0 e4)
          | ((with_reducible refine BIF.dec ?_ ?_) <;> intro _)
          | ((with_reducible refine BIF.s ?_ ?_) <;> intro hbs)
          | ((exfalso; exact hxr ⟨by assumption, by simpa using hbs, by assumption⟩))
          | ((with_reducible refine BIF.dec ?_ ?_) <;> intro _)
          | ((with_reducible refine BIF.s ?_ ?_) <;> intro _)
          | (with_reducible refine NEXTK.normal ?_)
          | (with_reducible refine NEXTK.ret ?_)
          | (with_reducible refine NEXTK.exit ?_)
          | (with_reducible refine SEQ.plain ?_)
          | (with_reducible refine hK _ _ ?_)
          | ((with_reducible refine RUNL.agg (fun _ => ?_) ?_); (focus kernel_rfl))
          | (with_reducible refine RUNL.run ?_)
          | ((with_reducible refine AR.ok ?_ ?_); exact ⟨by first | omega | (dsimp only; omega), by first | omega | (dsimp only; omega)⟩)
          | (with_reducible refine AR.wr ?_)
          | ((with_reducible intro w3 e3); try have z3 := cutLe e3)
          | ((with_reducible intro h3); have h4 := Nat.le_of_lt h3; clear h4)))
        all_goals
          refine ⟨(j + 1, (b, m, e)), rfl, ⟨rfl, rfl, trivial⟩, rfl, rfl, ⟨by simp only; omega, ?_, ?_⟩, by simp only; omega⟩
          · first | exact hz | exact Nat.le_trans hz (by first | (show wr.heap.size ≤ w4.heap.size; omega) | (show wr.heap.size ≤ w3.heap.size; omega))
          · rw [ht, if_neg hub]; simpa using hown
    · have hkj : j = xs.length := by simp only at hlt; omega
      rw [hkj, List.take_length] at hown
      repeat (any_goals (
        conv => whnf
        first
        | ((with_reducible refine BIF.dec ?_ ?_) <;> intro _)
        | ((with_reducible refine BIF.s ?_ ?_) <;> intro _)
        | (with_reducible refine NEXTK.normal ?_)
        | (with_reducible refine NEXTK.ret ?_)
        | (with_reducible refine NEXTK.exit ?_)
        | (with_reducible refine SEQ.plain ?_)
        | (with_reducible refine hK _ _ ?_)
        | ((with_reducible refine RUNL.agg (fun _ => ?_) ?_); (focus kernel_rfl))
        | (with_reducible refine RUNL.run ?_)
        | ((with_reducible refine AR.ok ?_ ?_); exact ⟨by first | omega | (dsimp only; omega), by first | omega | (dsimp only; omega)⟩)
        | (with_reducible refine AR.wr ?_)
        | ((with_reducible intro w3 e3); try have z3 := cutLe e3)
        | ((with_reducible intro h3); have h4 := Nat.le_of_lt h3; clear h4)))
      intro hx'
      rw [hf]
      exact ⟨_, rfl, hx', _, rfl, hown⟩
  · have hf : unthP xs d q = ([], false) := by
      unfold unthP unthOk
      rw [if_neg]
      simpa [and_assoc] using ho
    repeat (any_goals (
      conv => whnf
      first
      | ((with_reducible refine callF (g := 22) ?_ ?_); kernel_rfl; refine ⟨_, AreGifts_c _ _ _ xs _ (by repeat (first | assumption | refine Row.e0 ?_ (by assumption))) hn (by omega), ?_⟩; intro w4 e4; have z4 := cutLe e4)
      | ((with_reducible refine callF (g := 43) ?_ ?_); kernel_rfl; refine ⟨_, isDay_c _ _, ?_⟩; intro w4 e4; have z4 := cutLe e4)
      | ((with_reducible refine callF (g := 44) ?_ ?_); kernel_rfl; refine ⟨_, within_c _ _ _ _, ?_⟩; intro w4 e4; have z4 := cutLe e4)
      | ((exfalso; clear hK; simp_all; done))
      | ((with_reducible refine BIF.dec ?_ ?_) <;> intro _)
      | ((with_reducible refine BIF.s ?_ ?_) <;> intro _)
      | (with_reducible refine NEXTK.normal ?_)
      | (with_reducible refine NEXTK.ret ?_)
      | (with_reducible refine NEXTK.exit ?_)
      | (with_reducible refine SEQ.plain ?_)
      | (with_reducible refine hK _ _ ?_)
      | ((with_reducible refine RUNL.agg (fun _ => ?_) ?_); (focus kernel_rfl))
      | (with_reducible refine RUNL.run ?_)
      | ((with_reducible refine AR.ok ?_ ?_); exact ⟨by first | omega | (dsimp only; omega), by first | omega | (dsimp only; omega)⟩)
      | (with_reducible refine AR.wr ?_)
      | ((with_reducible intro w3 e3); try have z3 := cutLe e3)
      | ((with_reducible intro h3); have h4 := Nat.le_of_lt h3; clear h4)))
    all_goals
      intro hx'
      rw [hf]
      exact ⟨_, rfl, hx', _, rfl, Own.nil _ _ _ _⟩
theorem UnthankedS_c (a : Option Addr) (n c : Nat) (xs : List Gft) (d q : Int) (w : World) (hr : Row w a 5 (xs.map encGft)) (hn : xs.length = n) (hm : n ≤ 1048577) (hg : ∀ x ∈ xs, x.fGiver.size ≤ 9223372036854775807) :
    Calls Try.prog 20 #[.slice a n c, .int .i64 d, .int .i64 q] w fun e w' => ∃ v, e = .returned v ∧ E0 w w' ∧ ∃ s, v = .tuple #[s, .bool (unthP xs d q).2] ∧ Own w' w.heap.size 3 1 s ((unthP xs d q).1.map encI) := by
  refine enterK Non 65 Try.func20 rfl rfl rfl fun K hK => ?_
  conv => whnf
  repeat (first | ((with_reducible refine NEXTK.normal ?_); conv => whnf) | ((with_reducible refine NEXTK.exit ?_); conv => whnf) | ((with_reducible refine NEXTK.ret ?_); conv => whnf) | ((with_reducible refine SEQ.plain ?_); conv => whnf) | ((with_reducible refine AR.ok ?_ ?_); exact ⟨by omega, by omega⟩; conv => whnf))
  refine bsS elemI [] rfl rfl (by simp) (by omega) (fun w1 e1 o1 => ?_)
  have z1 := cutLe e1
  by_cases ho : areG xs = true ∧ inB d 0 4000 = true ∧ inB q 0 4000 = true
  · have hf : unthP xs d q = (unthOf d q xs, true) := by simp [unthP, unthOk, ho]
    have hl := areG_len ho.1
    have hd := inB_iff.1 ho.2.1
    repeat (any_goals (
      conv => whnf
      first
      | ((with_reducible refine callF (g := 40) ?_ ?_); kernel_rfl; refine ⟨_, l26Good_c _ _ _ xs _ (by repeat (first | assumption | refine Row.e0 ?_ (by assumption))) hn (by omega) hg, ?_⟩; intro w4 e4; have z4 := cutLe e4)
      | ((with_reducible refine callF (g := 48) ?_ ?_); kernel_rfl; refine ⟨_, l2Day_c _ _, ?_⟩; intro w4 e4; have z4 := cutLe e4)
      | ((with_reducible refine callF (g := 51) ?_ ?_); kernel_rfl; refine ⟨_, l1In_c _ _ _ _, ?_⟩; intro w4 e4; have z4 := cutLe e4)
      | ((exfalso; clear hK; simp_all; done))
      | ((with_reducible refine BIF.dec ?_ ?_) <;> intro _)
      | ((with_reducible refine BIF.s ?_ ?_) <;> intro _)
      | (with_reducible refine NEXTK.normal ?_)
      | (with_reducible refine NEXTK.ret ?_)
      | (with_reducible refine NEXTK.exit ?_)
      | (with_reducible refine SEQ.plain ?_)
      | (with_reducible refine hK _ _ ?_)
      | ((with_reducible refine RUNL.agg (fun _ => ?_) ?_); (focus kernel_rfl))
      | (with_reducible refine RUNL.run ?_)
      | ((with_reducible refine AR.ok ?_ ?_); exact ⟨by first | omega | (dsimp only; omega), by first | omega | (dsimp only; omega)⟩)
      | (with_reducible refine AR.wr ?_)
      | ((with_reducible intro w3 e3); try have z3 := cutLe e3)
      | ((with_reducible intro h3); have h4 := Nat.le_of_lt h3; clear h4)))
    conv => whnf
    have o4 : Own w4 w.heap.size 3 1 (.slice (some ⟨w.heap.size, 0, none⟩) 0 0) (([] : List Int).map encI) := by
      repeat (first | exact o1 | refine Own.e0 ?_ (by assumption))
    refine LOOP.mk (Nat × (Option Addr × Nat × Nat)) (fun g => [(9, .v (.int .i64 g.1)), (8, .v (.slice g.2.1 g.2.2.1 g.2.2.2))])
      (fun g wr => g.1 ≤ n ∧ w.heap.size ≤ wr.heap.size ∧ Own wr w.heap.size 3 1 (.slice g.2.1 g.2.2.1 g.2.2.2) ((unthOf d q (xs.take g.1)).map encI)) (fun g => n - g.1) (0, (some ⟨w.heap.size, 0, none⟩, 0, 0)) rfl ⟨rfl, rfl, trivial⟩ ⟨Nat.zero_le _, by show w.heap.size ≤ w4.heap.size; omega, o4⟩ ?_
    rintro ⟨j, ⟨b, m, e⟩⟩ wr - ⟨hj, hz, hown⟩
    simp only at hj hz hown
    have oL := fun k h => hown.block (k := k) h
    have hml := hown.row.2
    conv => whnf
    repeat (first | ((with_reducible refine NEXTK.normal ?_); conv => whnf) | ((with_reducible refine NEXTK.exit ?_); conv => whnf) | ((with_reducible refine NEXTK.ret ?_); conv => whnf) | ((with_reducible refine SEQ.plain ?_); conv => whnf) | ((with_reducible refine AR.ok ?_ ?_); exact ⟨by omega, by omega⟩; conv => whnf))
    refine BIF.dec (fun hlt => ?_) (fun hlt => ?_)
    · have hlt' : j < xs.length := by simp only at hlt; omega
      have his := hr.isSome (by simp; omega)
      obtain ⟨x, hx⟩ : ∃ x, xs[j]? = some x := ⟨xs[j]'(by omega), by simp⟩
      have hok := areG_at ho.1 hx
      have ht := unthOf_take d q hx
      have hil := unthOf_len d q (xs.take j)
      have hil2 : (unthOf d q (xs.take j)).length ≤ 12 := by simp at hil; omega
      by_cases hxr : x.fDay ≤ d ∧ thB d x = false ∧ q ≤ waitG d x
      · have hub : unthB d q x = true := by simp [unthB, hxr]
        have hth := hxr.2.1
        have h1 := hxr.1
        have h2 := hxr.2.2
        repeat (any_goals (
          conv => whnf
          first
          | ((with_reducible refine OBL.mk ?_ (fun _ => ?_)); exact ⟨by first | omega | (dsimp only; omega), by first | omega | (dsimp only; omega), his⟩)
          | ((with_reducible refine ELD.at (j) hr ?_ ?_ ?_ (fun x' hx' => ?_)); exact mAddr_Non _; (first | rfl | omega); exact hlt'; obtain rfl : x = x' := by (rw [hx] at hx'; exact Option.some.inj hx'))
          | ((with_reducible refine callF (g := 52) ?_ ?_); kernel_rfl; refine ⟨_, l26Open_c _ _ _, ?_⟩; intro w4 e4; have z4 := cutLe e4; replace hown := hown.e0 e4)
          | ((with_reducible refine callF (g := 53) ?_ ?_); kernel_rfl; refine ⟨_, l26Wait_c _ _ _ hok hd, ?_⟩; intro w4 e4; have z4 := cutLe e4; replace hown := hown.e0 e4)
          | ((with_reducible refine BIF.dec ?_ ?_) <;> intro _)
          | ((with_reducible refine BIF.s ?_ ?_) <;> intro hbs)
          | ((exfalso; omega))
          | ((exfalso; rw [hth] at hbs; exact absurd hbs (by decide)))
          | ((with_reducible refine bsS elemI [.int .i64 x.fId] ?_ ?_ ?_ ?_ ?_); (focus rfl); (focus rfl); (focus (intro v hv; simp at hv; subst hv; rfl)); (focus omega); intro w9 e9 oB; have z9 := cutLe e9; (try replace oC := oC.e0 e9))
          | ((with_reducible refine BIF.dec ?_ ?_) <;> intro _)
          | ((with_reducible refine BIF.s ?_ ?_) <;> intro _)
          | (with_reducible refine NEXTK.normal ?_)
          | (with_reducible refine NEXTK.ret ?_)
          | (with_reducible refine NEXTK.exit ?_)
          | (with_reducible refine SEQ.plain ?_)
          | (with_reducible refine hK _ _ ?_)
          | ((with_reducible refine RUNL.agg (fun _ => ?_) ?_); (focus kernel_rfl))
          | (with_reducible refine RUNL.run ?_)
          | ((with_reducible refine AR.ok ?_ ?_); exact ⟨by first | omega | (dsimp only; omega), by first | omega | (dsimp only; omega)⟩)
          | (with_reducible refine AR.wr ?_)
          | ((with_reducible intro w3 e3); try have z3 := cutLe e3)
          | ((with_reducible intro h3); have h4 := Nat.le_of_lt h3; clear h4)))
        conv => whnf
        replace hown := hown.e0 e9
        refine apS (ns := [encI x.fId]) elemI hown oB.row.1 rfl (by intro l hl; simp at hl; subst hl; rfl) ⟨by simp; omega, by simp; omega⟩ ⟨(by show w.heap.size ≤ _; omega), by omega⟩ trivial (fun v2 w2 x2 o2 => ?_)
        have z2 := cutLe x2
        replace o2 : Own w2 w.heap.size 3 1 v2 ((unthOf d q (xs.take (j + 1))).map encI) := by rw [ht, if_pos hub]; simpa using o2
        obtain ⟨b2, d2, rfl, q2, p2⟩ := o2.rowx
        repeat (any_goals (
          conv => whnf
          first
          | ((with_reducible refine BIF.dec ?_ ?_) <;> intro _)
          | ((with_reducible refine BIF.s ?_ ?_) <;> intro _)
          | (with_reducible refine NEXTK.normal ?_)
          | (with_reducible refine NEXTK.ret ?_)
          | (with_reducible refine NEXTK.exit ?_)
          | (with_reducible refine SEQ.plain ?_)
          | (with_reducible refine hK _ _ ?_)
          | ((with_reducible refine RUNL.agg (fun _ => ?_) ?_); (focus kernel_rfl))
          | (with_reducible refine RUNL.run ?_)
          | ((with_reducible refine AR.ok ?_ ?_); exact ⟨by first | omega | (dsimp only; omega), by first | omega | (dsimp only; omega)⟩)
          | (with_reducible refine AR.wr ?_)
          | ((with_reducible intro w3 e3); try have z3 := cutLe e3)
          | ((with_reducible intro h3); have h4 := Nat.le_of_lt h3; clear h4)))
        refine ⟨(j + 1, (b2, _, d2)), rfl, ⟨rfl, rfl, trivial⟩, rfl, rfl, ⟨by simp only; omega, ?_, o2⟩, by simp only; omega⟩
        show w.heap.size ≤ w2.heap.size
        omega
      · have hub : ¬ unthB d q x = true := by
          intro h
          simp only [unthB, Bool.and_eq_true, decide_eq_true_eq, Bool.not_eq_true'] at h
          exact hxr ⟨h.1.1, h.1.2, h.2⟩
        repeat (any_goals (
          conv => whnf
          first
          | ((with_reducible refine OBL.mk ?_ (fun _ => ?_)); exact ⟨by first | omega | (dsimp only; omega), by first | omega | (dsimp only; omega), his⟩)
          | ((with_reducible refine ELD.at (j) hr ?_ ?_ ?_ (fun x' hx' => ?_)); exact mAddr_Non _; (first | rfl | omega); exact hlt'; obtain rfl : x = x' := by (rw [hx] at hx'; exact Option.some.inj hx'))
          | ((with_reducible refine callF (g := 52) ?_ ?_); kernel_rfl; refine ⟨_, l26Open_c _ _ _, ?_⟩; intro w4 e4; have z4 := cutLe e4; replace hown := hown.e0 e4)
          | ((with_reducible refine callF (g := 53) ?_ ?_); kernel_rfl; refine ⟨_, l26Wait_c _ _ _ hok hd, ?_⟩; intro w4 e4; have z4 := cutLe e4; replace hown := hown.e0 e4)
          | ((with_reducible refine BIF.dec ?_ ?_) <;> intro _)
          | ((with_reducible refine BIF.s ?_ ?_) <;> intro hbs)
          | ((exfalso; exact hxr ⟨by assumption, by simpa using hbs, by assumption⟩))
          | ((with_reducible refine BIF.dec ?_ ?_) <;> intro _)
          | ((with_reducible refine BIF.s ?_ ?_) <;> intro _)
          | (with_reducible refine NEXTK.normal ?_)
          | (with_reducible refine NEXTK.ret ?_)
          | (with_reducible refine NEXTK.exit ?_)
          | (with_reducible refine SEQ.plain ?_)
          | (with_reducible refine hK _ _ ?_)
          | ((with_reducible refine RUNL.agg (fun _ => ?_) ?_); (focus kernel_rfl))
          | (with_reducible refine RUNL.run ?_)
          | ((with_reducible refine AR.ok ?_ ?_); exact ⟨by first | omega | (dsimp only; omega), by first | omega | (dsimp only; omega)⟩)
          | (with_reducible refine AR.wr ?_)
          | ((with_reducible intro w3 e3); try have z3 := cutLe e3)
          | ((with_reducible intro h3); have h4 := Nat.le_of_lt h3; clear h4)))
        all_goals
          refine ⟨(j + 1, (b, m, e)), rfl, ⟨rfl, rfl, trivial⟩, rfl, rfl, ⟨by simp only; omega, ?_, ?_⟩, by simp only; omega⟩
          · first | exact hz | exact Nat.le_trans hz (by first | (show wr.heap.size ≤ w4.heap.size; omega) | (show wr.heap.size ≤ w3.heap.size; omega))
          · rw [ht, if_neg hub]; simpa using hown
    · have hkj : j = xs.length := by simp only at hlt; omega
      rw [hkj, List.take_length] at hown
      repeat (any_goals (
        conv => whnf
        first
        | ((with_reducible refine BIF.dec ?_ ?_) <;> intro _)
        | ((with_reducible refine BIF.s ?_ ?_) <;> intro _)
        | (with_reducible refine NEXTK.normal ?_)
        | (with_reducible refine NEXTK.ret ?_)
        | (with_reducible refine NEXTK.exit ?_)
        | (with_reducible refine SEQ.plain ?_)
        | (with_reducible refine hK _ _ ?_)
        | ((with_reducible refine RUNL.agg (fun _ => ?_) ?_); (focus kernel_rfl))
        | (with_reducible refine RUNL.run ?_)
        | ((with_reducible refine AR.ok ?_ ?_); exact ⟨by first | omega | (dsimp only; omega), by first | omega | (dsimp only; omega)⟩)
        | (with_reducible refine AR.wr ?_)
        | ((with_reducible intro w3 e3); try have z3 := cutLe e3)
        | ((with_reducible intro h3); have h4 := Nat.le_of_lt h3; clear h4)))
      intro hx'
      rw [hf]
      exact ⟨_, rfl, hx', _, rfl, hown⟩
  · have hf : unthP xs d q = ([], false) := by
      unfold unthP unthOk
      rw [if_neg]
      simpa [and_assoc] using ho
    repeat (any_goals (
      conv => whnf
      first
      | ((with_reducible refine callF (g := 40) ?_ ?_); kernel_rfl; refine ⟨_, l26Good_c _ _ _ xs _ (by repeat (first | assumption | refine Row.e0 ?_ (by assumption))) hn (by omega) hg, ?_⟩; intro w4 e4; have z4 := cutLe e4)
      | ((with_reducible refine callF (g := 48) ?_ ?_); kernel_rfl; refine ⟨_, l2Day_c _ _, ?_⟩; intro w4 e4; have z4 := cutLe e4)
      | ((with_reducible refine callF (g := 51) ?_ ?_); kernel_rfl; refine ⟨_, l1In_c _ _ _ _, ?_⟩; intro w4 e4; have z4 := cutLe e4)
      | ((exfalso; clear hK; simp_all; done))
      | ((with_reducible refine BIF.dec ?_ ?_) <;> intro _)
      | ((with_reducible refine BIF.s ?_ ?_) <;> intro _)
      | (with_reducible refine NEXTK.normal ?_)
      | (with_reducible refine NEXTK.ret ?_)
      | (with_reducible refine NEXTK.exit ?_)
      | (with_reducible refine SEQ.plain ?_)
      | (with_reducible refine hK _ _ ?_)
      | ((with_reducible refine RUNL.agg (fun _ => ?_) ?_); (focus kernel_rfl))
      | (with_reducible refine RUNL.run ?_)
      | ((with_reducible refine AR.ok ?_ ?_); exact ⟨by first | omega | (dsimp only; omega), by first | omega | (dsimp only; omega)⟩)
      | (with_reducible refine AR.wr ?_)
      | ((with_reducible intro w3 e3); try have z3 := cutLe e3)
      | ((with_reducible intro h3); have h4 := Nat.le_of_lt h3; clear h4)))
    all_goals
      intro hx'
      rw [hf]
      exact ⟨_, rfl, hx', _, rfl, (by clear hx'; repeat (first | exact o1 | exact o1.lo (by omega) | refine Own.e0 ?_ (by assumption)))⟩

end Go.Proofs.Ytohnoccmaeegdaa

/- The free seats. -/
import Derived.Test.YthnkfimeipjehaaRows
import Derived.Test.YthnkfimeipjehaaVisits
namespace Go.Proofs.Ythnkfimeipjehaa
open Go Go.X Go.Proofs Go.ChangeShapes Go.WideShapes Go.ChangeAt Go.RowKit
open Go.ChangeMaps (open_string shut_string)
set_option maxHeartbeats 1000000
set_option maxRecDepth 20000
set_option linter.unusedVariables false
set_option linter.unusedSimpArgs false
def seatK (s f u : Int) (x : Vis) : Bool := decide (x.fSeat = s) && meetV x f u
def freeUp (xs : List Vis) (f u : Int) : Nat → List Int
  | 0 => []
  | k + 1 => freeUp xs f u k ++ (if xs.any (seatK ((k : Int) + 1) f u) then [] else [(k : Int) + 1])
theorem freeUp_len (xs : List Vis) (f u : Int) : ∀ k, (freeUp xs f u k).length ≤ k
  | 0 => Nat.le_refl _
  | k + 1 => by
    have := freeUp_len xs f u k
    simp only [freeUp, List.length_append]
    split <;> simp <;> omega
def freeP (xs : List Vis) (f u : Int) : List Int × Bool := if areV xs && timeB f u then (freeUp xs f u 6, true) else ([], false)
theorem freeP_len (xs : List Vis) (f u : Int) : (freeP xs f u).1.length ≤ 6 := by
  unfold freeP
  split
  · exact freeUp_len xs f u 6
  · simp
theorem freeSeats1_c (x : Vis) (s f u : Int) (p q r : Addr) (w : World) (hp : Row w (some p) 1 [[.int .i64 s]]) (hq : Row w (some q) 1 [[.int .i64 f]]) (hr : Row w (some r) 1 [[.int .i64 u]]) :
    Calls Try.prog 30 #[.agg (encVis x).toArray, .pointer (some p), .pointer (some q), .pointer (some r)] w fun e w' => e = .returned (.bool (seatK s f u x)) ∧ E0 w w' := by
  refine enterK Non 16 Try.func30 rfl rfl rfl fun K hK => ?_
  repeat (any_goals (
    conv => whnf
    first
    | ((with_reducible refine ELD.old [[.int .i64 s]] [.int .i64 s] hp ?_ ?_ ?_); exact mAddr_Non _; rfl)
    | ((with_reducible refine ELD.old [[.int .i64 f]] [.int .i64 f] hq ?_ ?_ ?_); exact mAddr_Non _; rfl)
    | ((with_reducible refine ELD.old [[.int .i64 u]] [.int .i64 u] hr ?_ ?_ ?_); exact mAddr_Non _; rfl)
    | ((with_reducible refine BIF.beq ?_ ?_) <;> intro hsq)
    | ((with_reducible refine callF (g := 27) ?_ ?_); kernel_rfl; refine ⟨_, meets_c _ _ _ _, ?_⟩; intro w4 e4; have z4 := cutLe e4)
    | ((with_reducible refine BIF.dec ?_ ?_) <;> intro _)
    | ((with_reducible refine BIF.s ?_ ?_) <;> intro _)
    | (with_reducible refine NEXTK.normal ?_)
    | (with_reducible refine NEXTK.ret ?_)
    | (with_reducible refine NEXTK.exit ?_)
    | (with_reducible refine SEQ.plain ?_)
    | (with_reducible refine hK _ _ ?_)
    | ((with_reducible refine RUNL.agg (fun _ => ?_) ?_); (focus kernel_rfl))
    | (with_reducible refine RUNL.run ?_)
    | ((with_reducible refine AR.ok ?_ ?_); exact ⟨by first | omega | (dsimp only; omega), by first | omega | (dsimp only; omega)⟩)
    | (with_reducible refine AR.wr ?_)
    | ((with_reducible intro w3 e3); try have z3 := cutLe e3)
    | ((with_reducible intro h3); have h4 := Nat.le_of_lt h3; clear h4)))
  all_goals
    intro hx
    refine ⟨?_, hx⟩
    simp [seatK, hsq, resV]
theorem freeSeats_c (a : Option Addr) (n c : Nat) (xs : List Vis) (f u : Int) (w : World) (hr : Row w a 4 (xs.map encVis)) (hn : xs.length = n) (hm : n ≤ 1048577) :
    Calls Try.prog 19 #[.slice a n c, .int .i64 f, .int .i64 u] w fun e w' => ∃ r, e = .returned r ∧ E0 w w' ∧ Own w' w.heap.size 3 1 r ((freeUp xs f u 6).map encI) := by
  refine enterKA Non 23 Try.func19 rfl rfl rfl fun K hK => ?_
  conv => whnf
  repeat (first | ((with_reducible refine NEXTK.normal ?_); conv => whnf) | ((with_reducible refine NEXTK.exit ?_); conv => whnf) | ((with_reducible refine NEXTK.ret ?_); conv => whnf) | ((with_reducible refine SEQ.plain ?_); conv => whnf) | ((with_reducible refine AR.ok ?_ ?_); exact ⟨by omega, by omega⟩; conv => whnf))
  intro wa ea
  have za := cutLe ea.ext
  have sa := ea.size
  have pa := (Own.newb ea).row.1
  conv => whnf
  repeat (first | ((with_reducible refine NEXTK.normal ?_); conv => whnf) | ((with_reducible refine NEXTK.exit ?_); conv => whnf) | ((with_reducible refine NEXTK.ret ?_); conv => whnf) | ((with_reducible refine SEQ.plain ?_); conv => whnf) | ((with_reducible refine AR.ok ?_ ?_); exact ⟨by omega, by omega⟩; conv => whnf))
  intro wb eb
  have zb := cutLe eb.ext
  have sb := eb.size
  replace pa := pa.e0 eb.ext
  have pb := (Own.newb eb).row.1
  conv => whnf
  repeat (first | ((with_reducible refine NEXTK.normal ?_); conv => whnf) | ((with_reducible refine NEXTK.exit ?_); conv => whnf) | ((with_reducible refine NEXTK.ret ?_); conv => whnf) | ((with_reducible refine SEQ.plain ?_); conv => whnf) | ((with_reducible refine AR.ok ?_ ?_); exact ⟨by omega, by omega⟩; conv => whnf))
  intro wc ec
  have zc := cutLe ec.ext
  have sc := ec.size
  replace pa := pa.e0 ec.ext
  replace pb := pb.e0 ec.ext
  have ob := Own.newb ec
  conv => whnf
  repeat (first | ((with_reducible refine NEXTK.normal ?_); conv => whnf) | ((with_reducible refine NEXTK.exit ?_); conv => whnf) | ((with_reducible refine NEXTK.ret ?_); conv => whnf) | ((with_reducible refine SEQ.plain ?_); conv => whnf) | ((with_reducible refine AR.ok ?_ ?_); exact ⟨by omega, by omega⟩; conv => whnf))
  refine stP ob (by kernel_rfl) rfl rfl (by show w.heap.size ≤ _; omega) trivial (fun wd xd od => ?_)
  have zd := cutLe xd
  replace pa := pa.ext xd (fun h => by have e : w.heap.size = wb.heap.size := h; omega)
  replace pb := pb.ext xd (fun h => by have e : wa.heap.size = wb.heap.size := h; omega)
  replace od : Own wd wb.heap.size 3 1 (.slice (some ⟨wb.heap.size, 0, none⟩) 1 1) [[.int .i64 1]] := od
  clear ob
  conv => whnf
  repeat (first | ((with_reducible refine NEXTK.normal ?_); conv => whnf) | ((with_reducible refine NEXTK.exit ?_); conv => whnf) | ((with_reducible refine NEXTK.ret ?_); conv => whnf) | ((with_reducible refine SEQ.plain ?_); conv => whnf) | ((with_reducible refine AR.ok ?_ ?_); exact ⟨by omega, by omega⟩; conv => whnf))
  refine LOOP.mk (Nat × Nat × (Option Addr × Nat × Nat)) (fun g => [(7, .v (.slice g.2.2.1 g.2.2.2.1 g.2.2.2.2)), (8, .v (.pointer (some ⟨g.2.1, 0, none⟩)))])
    (fun g wr => g.1 ≤ 6 ∧ wb.heap.size ≤ g.2.1 ∧ wb.heap.size < wr.heap.size ∧ Own wr wb.heap.size 3 1 (.slice g.2.2.1 g.2.2.2.1 g.2.2.2.2) ((freeUp xs f u g.1).map encI) ∧ Own wr wb.heap.size 3 1 (.slice (some ⟨g.2.1, 0, none⟩) 1 1) [[.int .i64 ((g.1 : Int) + 1)]] ∧
      (∀ k, (Value.slice g.2.2.1 g.2.2.2.1 g.2.2.2.2).ownBlock = some k → k < g.2.1) ∧ Row wr (some ⟨w.heap.size, 0, none⟩) 1 [[.int .i64 f]] ∧ Row wr (some ⟨wa.heap.size, 0, none⟩) 1 [[.int .i64 u]]) (fun g => 6 - g.1) (0, wb.heap.size, (none, 0, 0)) rfl ⟨rfl, rfl, trivial⟩
    ⟨by simp only; omega, Nat.le_refl _, by show wb.heap.size < wd.heap.size; omega, Own.nil _ _ _ _, od, (fun k h => by cases h), pa, pb⟩ ?_
  clear pa pb od
  rintro ⟨k, blk, ⟨a1, m1, c1⟩⟩ wr - ⟨hk, hblk, hwr, hown, ob, hap, pa, pb⟩
  simp only at hk hblk hwr hown ob hap pa pb
  have oL := fun k h => hown.block (k := k) h
  have oB := fun k h => ob.block (k := k) h
  have hbk : ∀ k, (Value.slice (some ⟨blk, 0, none⟩) 1 1).ownBlock = some k → k = blk := fun k h => (Option.some.inj h).symm
  have hbl := (oB blk rfl).2
  have hml := hown.row.2
  rw [List.length_map] at hml
  have hfl := freeUp_len xs f u k
  dsimp only
  by_cases hk6 : k < 6
  · have hin : inB ((k : Int) + 1) 1 6 = true := by simp [inB]; omega
    repeat (any_goals (
      conv => whnf
      first
      | ((with_reducible refine ELD.now _ _ ob.row.1 rfl ?_))
      | ((with_reducible refine callF (g := 29) ?_ ?_); kernel_rfl; refine ⟨_, isSeat_c _ _, ?_⟩; intro w4 e4; have z4 := cutLe e4 ; replace hown := hown.e0 e4 ; replace ob := ob.e0 e4 ; replace pa := pa.e0 e4 ; replace pb := pb.e0 e4)
      | ((with_reducible refine BIF.s (fun h => absurd h ?_) (fun _ => ?_)); focus (simp [hin]; done))
      | ((with_reducible refine BIF.s (fun _ => ?_) (fun h => absurd h ?_)); rotate_left; focus (simp [hin]; done))
      | ((with_reducible refine callX (g := 25) ?_ ?_); kernel_rfl; intro hX; refine ⟨_, ContainsFuncVis_c (seatK ((k : Int) + 1) f u) _ _ _ xs _ _ _ (hr.ext hX (mAddr_Non _)) hn (by omega) (by kernel_rfl) (fun y _ w' e => freeSeats1_c y _ _ _ _ _ _ w' (ob.row.1.e0 e) (pa.e0 e) (pb.e0 e)), ?_⟩; clear hX; intro w4 e4; have z4 := cutLe e4; replace hown := hown.e0 e4; replace ob := ob.e0 e4; replace pa := pa.e0 e4; replace pb := pb.e0 e4)
      | ((with_reducible refine BIF.not ?_))
      | ((with_reducible refine BIF.s (fun (hany : xs.any (seatK ((k : Int) + 1) f u) = true) => ?_) (fun hany => ?_)))
      | ((with_reducible refine bsS elemI [.int .i64 ((k : Int) + 1)] ?_ ?_ ?_ ?_ ?_); (focus rfl); (focus rfl); (focus (intro v hv; simp at hv; subst hv; rfl)); (focus omega); intro w9 e9 oB; have z9 := cutLe e9; (try replace oC := oC.e0 e9) ; have oN := oB ; clear oB ; replace hown := hown.e0 e9 ; replace ob := ob.e0 e9 ; replace pa := pa.e0 e9 ; replace pb := pb.e0 e9)
      | ((with_reducible refine apS (ns := [encI ((k : Int) + 1)]) elemI hown ?_ ?_ ?_ ?_ ?_ ?_ (fun v2 w2 x2 o2 => ?_)); (focus exact oN.row.1); (focus rfl); (focus (intro l hl; simp at hl; subst hl; rfl)); (focus exact ⟨by simp; omega, by simp; omega⟩); (focus exact ⟨by show w.heap.size ≤ _; omega, by omega⟩); (focus exact trivial); have z2 := cutLe x2; replace ob := ob.ext x2 (fun q hq h => by have e1 := hbk q hq; have e2 := hap q h; omega); replace pa := pa.ext x2 (fun h => by have e2 := (oL _ h).1; dsimp only at e2; omega); replace pb := pb.ext x2 (fun h => by have e2 := (oL _ h).1; dsimp only at e2; omega); clear hown; obtain ⟨a2, c2, m2, q2⟩ : ∃ a2 c2 m2, v2 = .slice a2 m2 c2 := (by obtain ⟨a2, c2, h, _⟩ := o2.form; exact ⟨a2, c2, _, h⟩); subst q2; have hown := o2; clear o2)
      | ((with_reducible intro w3 e3); have s3 := e3.size; have z3 := cutLe e3.ext; have ob2 := Own.newb e3; have hup := (fun q h => (hown.block (k := q) h).2); replace hown := hown.e0 e3.ext; replace pa := pa.e0 e3.ext; replace pb := pb.e0 e3.ext; clear ob)
      | ((with_reducible refine BIF.dec ?_ ?_) <;> intro _)
      | ((with_reducible refine BIF.s ?_ ?_) <;> intro _)
      | (with_reducible refine NEXTK.normal ?_)
      | (with_reducible refine NEXTK.ret ?_)
      | (with_reducible refine NEXTK.exit ?_)
      | (with_reducible refine SEQ.plain ?_)
      | (with_reducible refine hK _ _ ?_)
      | ((with_reducible refine RUNL.agg (fun _ => ?_) ?_); (focus kernel_rfl))
      | (with_reducible refine RUNL.run ?_)
      | ((with_reducible refine AR.ok ?_ ?_); exact ⟨by first | omega | (dsimp only; omega), by first | omega | (dsimp only; omega)⟩)
      | (with_reducible refine AR.wr ?_)
      | ((with_reducible intro w3 e3); try have z3 := cutLe e3)
      | ((with_reducible intro h3); have h4 := Nat.le_of_lt h3; clear h4)))
    all_goals
      conv => whnf
      have hnext : freeUp xs f u (k + 1) = freeUp xs f u k ++ (if xs.any (seatK ((k : Int) + 1) f u) then [] else [(k : Int) + 1]) := rfl
      rw [hany] at hnext
    all_goals
      refine stP ob2 (by kernel_rfl) rfl rfl (by show w.heap.size ≤ _; omega) trivial (fun w6 x6 o6 => ?_)
      have z6 := cutLe x6
      replace hown := hown.ext x6 (fun q hq h => by have e2 := hup q hq; omega)
      replace pa := pa.ext x6 (fun h => by have e : w.heap.size = _ := h; omega)
      replace pb := pb.ext x6 (fun h => by have e : wa.heap.size = _ := h; omega)
      clear ob2
      repeat (any_goals (
        conv => whnf
        first
        | ((with_reducible refine ELD.now _ _ o6.row.1 rfl ?_))
        | ((with_reducible refine BIF.dec ?_ ?_) <;> intro _)
        | ((with_reducible refine BIF.s ?_ ?_) <;> intro _)
        | (with_reducible refine NEXTK.normal ?_)
        | (with_reducible refine NEXTK.ret ?_)
        | (with_reducible refine NEXTK.exit ?_)
        | (with_reducible refine SEQ.plain ?_)
        | (with_reducible refine hK _ _ ?_)
        | ((with_reducible refine RUNL.agg (fun _ => ?_) ?_); (focus kernel_rfl))
        | (with_reducible refine RUNL.run ?_)
        | ((with_reducible refine AR.ok ?_ ?_); exact ⟨by first | omega | (dsimp only; omega), by first | omega | (dsimp only; omega)⟩)
        | (with_reducible refine AR.wr ?_)
        | ((with_reducible intro w3 e3); try have z3 := cutLe e3)
        | ((with_reducible intro h3); have h4 := Nat.le_of_lt h3; clear h4)))
      conv => whnf
      refine stP o6 (by kernel_rfl) rfl rfl (by show w.heap.size ≤ _; omega) trivial (fun w7 x7 o7 => ?_)
      have z7 := cutLe x7
      replace hown := hown.ext x7 (fun q hq h => by have e2 := hup q hq; omega)
      replace pa := pa.ext x7 (fun h => by have e : w.heap.size = _ := h; omega)
      replace pb := pb.ext x7 (fun h => by have e : wa.heap.size = _ := h; omega)
      clear o6
      repeat (any_goals (
        conv => whnf
        first
        | ((with_reducible refine BIF.dec ?_ ?_) <;> intro _)
        | ((with_reducible refine BIF.s ?_ ?_) <;> intro _)
        | (with_reducible refine NEXTK.normal ?_)
        | (with_reducible refine NEXTK.ret ?_)
        | (with_reducible refine NEXTK.exit ?_)
        | (with_reducible refine SEQ.plain ?_)
        | (with_reducible refine hK _ _ ?_)
        | ((with_reducible refine RUNL.agg (fun _ => ?_) ?_); (focus kernel_rfl))
        | (with_reducible refine RUNL.run ?_)
        | ((with_reducible refine AR.ok ?_ ?_); exact ⟨by first | omega | (dsimp only; omega), by first | omega | (dsimp only; omega)⟩)
        | (with_reducible refine AR.wr ?_)
        | ((with_reducible intro w3 e3); try have z3 := cutLe e3)
        | ((with_reducible intro h3); have h4 := Nat.le_of_lt h3; clear h4)))
      refine ⟨(k + 1, _, (_, _, _)), rfl, ⟨rfl, rfl, trivial⟩, rfl, rfl, ⟨by simp only; omega, by simp only [Array.length_toList]; omega, by dsimp only; omega, ?_, ?_, hup, pa, pb⟩, by simp only; omega⟩
      · simp only [hnext]
        simpa using hown
      · simpa using o7.lo (lo' := wb.heap.size) (by omega)
  · have hin : inB ((k : Int) + 1) 1 6 = false := by simp [inB]; omega
    have hk6' : k = 6 := by omega
    repeat (any_goals (
      conv => whnf
      first
      | ((with_reducible refine ELD.now _ _ ob.row.1 rfl ?_))
      | ((with_reducible refine callF (g := 29) ?_ ?_); kernel_rfl; refine ⟨_, isSeat_c _ _, ?_⟩; intro w4 e4; have z4 := cutLe e4 ; replace hown := hown.e0 e4)
      | ((with_reducible refine BIF.s (fun h => absurd h ?_) (fun _ => ?_)); focus (simp [hin]; done))
      | ((with_reducible refine BIF.s (fun _ => ?_) (fun h => absurd h ?_)); rotate_left; focus (simp [hin]; done))
      | ((with_reducible refine BIF.dec ?_ ?_) <;> intro _)
      | ((with_reducible refine BIF.s ?_ ?_) <;> intro _)
      | (with_reducible refine NEXTK.normal ?_)
      | (with_reducible refine NEXTK.ret ?_)
      | (with_reducible refine NEXTK.exit ?_)
      | (with_reducible refine SEQ.plain ?_)
      | (with_reducible refine hK _ _ ?_)
      | ((with_reducible refine RUNL.agg (fun _ => ?_) ?_); (focus kernel_rfl))
      | (with_reducible refine RUNL.run ?_)
      | ((with_reducible refine AR.ok ?_ ?_); exact ⟨by first | omega | (dsimp only; omega), by first | omega | (dsimp only; omega)⟩)
      | (with_reducible refine AR.wr ?_)
      | ((with_reducible intro w3 e3); try have z3 := cutLe e3)
      | ((with_reducible intro h3); have h4 := Nat.le_of_lt h3; clear h4)))
    intro hx
    rw [hk6'] at hown
    exact ⟨_, rfl, hx, hown.lo (by omega)⟩
theorem FreeSeats_c (a : Option Addr) (n c : Nat) (xs : List Vis) (f u : Int) (w : World) (hr : Row w a 4 (xs.map encVis)) (hn : xs.length = n) (hm : n ≤ 1048577) (hc : n ≤ c ∧ c < 9223372036854775808) :
    Calls Try.prog 7 #[.slice a n c, .int .i64 f, .int .i64 u] w fun e w' => ∃ v, e = .returned v ∧ E0 w w' ∧ ∃ s, v = .tuple #[s, .bool (freeP xs f u).2] ∧ Own w' w.heap.size 3 1 s ((freeP xs f u).1.map encI) := by
  refine enterK Non 21 Try.func7 rfl rfl rfl fun K hK => ?_
  by_cases hg : areV xs = true ∧ timeB f u = true
  · have hf : freeP xs f u = (freeUp xs f u 6, true) := by simp [freeP, hg]
    repeat (any_goals (
      conv => whnf
      first
      | ((with_reducible refine callF (g := 17) ?_ ?_); kernel_rfl; refine ⟨_, AreVisits_c _ _ _ xs _ (by repeat (first | assumption | refine Row.e0 ?_ (by assumption))) hn (by omega) hc, ?_⟩; intro w4 e4; have z4 := cutLe e4)
      | ((with_reducible refine callF (g := 18) ?_ ?_); kernel_rfl; refine ⟨_, isTime_c _ _ _, ?_⟩; intro w4 e4; have z4 := cutLe e4)
      | ((with_reducible refine BIF.s (fun h => absurd h ?_) (fun _ => ?_)); focus (simp [hg.1]; done))
      | ((with_reducible refine BIF.s (fun _ => ?_) (fun h => absurd h ?_)); rotate_left; focus (simp [hg.1]; done))
      | ((with_reducible refine BIF.s (fun h => absurd h ?_) (fun _ => ?_)); focus (simp [hg.2]; done))
      | ((with_reducible refine BIF.s (fun _ => ?_) (fun h => absurd h ?_)); rotate_left; focus (simp [hg.2]; done))
      | ((with_reducible refine callY (g := 19) ?_ ?_); kernel_rfl; refine ⟨_, fun x => freeSeats_c _ _ _ xs _ _ _ (hr.ext x (mAddr_Non _)) hn (by omega), ?_⟩; intro r5 w5 e5 o5; have z6 := cutLe e5; obtain ⟨b5, d5, rfl, q5, z5⟩ := o5.rowx)
      | ((with_reducible refine BIF.dec ?_ ?_) <;> intro _)
      | ((with_reducible refine BIF.s ?_ ?_) <;> intro _)
      | (with_reducible refine NEXTK.normal ?_)
      | (with_reducible refine NEXTK.ret ?_)
      | (with_reducible refine NEXTK.exit ?_)
      | (with_reducible refine SEQ.plain ?_)
      | (with_reducible refine hK _ _ ?_)
      | ((with_reducible refine RUNL.agg (fun _ => ?_) ?_); (focus kernel_rfl))
      | (with_reducible refine RUNL.run ?_)
      | ((with_reducible refine AR.ok ?_ ?_); exact ⟨by first | omega | (dsimp only; omega), by first | omega | (dsimp only; omega)⟩)
      | (with_reducible refine AR.wr ?_)
      | ((with_reducible intro w3 e3); try have z3 := cutLe e3)
      | ((with_reducible intro h3); have h4 := Nat.le_of_lt h3; clear h4)))
    intro hx
    rw [hf]
    exact ⟨_, rfl, hx, _, rfl, o5.lo (by omega)⟩
  · have hf : freeP xs f u = ([], false) := by
      unfold freeP
      rw [if_neg]
      simpa using hg
    repeat (any_goals (
      conv => whnf
      first
      | ((with_reducible refine callF (g := 17) ?_ ?_); kernel_rfl; refine ⟨_, AreVisits_c _ _ _ xs _ (by repeat (first | assumption | refine Row.e0 ?_ (by assumption))) hn (by omega) hc, ?_⟩; intro w4 e4; have z4 := cutLe e4)
      | ((with_reducible refine callF (g := 18) ?_ ?_); kernel_rfl; refine ⟨_, isTime_c _ _ _, ?_⟩; intro w4 e4; have z4 := cutLe e4)
      | ((with_reducible refine BIF.s ?_ ?_) <;> intro _)
      | ((exfalso; clear hK; simp_all; done))
      | ((with_reducible refine BIF.dec ?_ ?_) <;> intro _)
      | ((with_reducible refine BIF.s ?_ ?_) <;> intro _)
      | (with_reducible refine NEXTK.normal ?_)
      | (with_reducible refine NEXTK.ret ?_)
      | (with_reducible refine NEXTK.exit ?_)
      | (with_reducible refine SEQ.plain ?_)
      | (with_reducible refine hK _ _ ?_)
      | ((with_reducible refine RUNL.agg (fun _ => ?_) ?_); (focus kernel_rfl))
      | (with_reducible refine RUNL.run ?_)
      | ((with_reducible refine AR.ok ?_ ?_); exact ⟨by first | omega | (dsimp only; omega), by first | omega | (dsimp only; omega)⟩)
      | (with_reducible refine AR.wr ?_)
      | ((with_reducible intro w3 e3); try have z3 := cutLe e3)
      | ((with_reducible intro h3); have h4 := Nat.le_of_lt h3; clear h4)))
    all_goals
      intro hx'
      rw [hf]
      exact ⟨_, rfl, hx', _, rfl, Own.nil _ _ _ _⟩
theorem l30Free_c (a : Option Addr) (n c : Nat) (xs : List Vis) (f u : Int) (w : World) (hr : Row w a 4 (xs.map encVis)) (hn : xs.length = n) (hm : n ≤ 1048577) :
    Calls Try.prog 15 #[.slice a n c, .int .i64 f, .int .i64 u] w fun e w' => ∃ r, e = .returned r ∧ E0 w w' ∧ Own w' w.heap.size 3 1 r ((freeUp xs f u 6).map encI) := by
  refine enterK Non 48 Try.func15 rfl rfl rfl fun K hK => ?_
  conv => whnf
  repeat (first | ((with_reducible refine NEXTK.normal ?_); conv => whnf) | ((with_reducible refine NEXTK.exit ?_); conv => whnf) | ((with_reducible refine NEXTK.ret ?_); conv => whnf) | ((with_reducible refine SEQ.plain ?_); conv => whnf) | ((with_reducible refine AR.ok ?_ ?_); exact ⟨by omega, by omega⟩; conv => whnf))
  refine bsS elemI [] rfl rfl (by simp) (by omega) (fun w1 e1 o1 => ?_)
  have z1 := cutLe e1
  replace o1 : Own w1 w.heap.size 3 1 (.slice (some ⟨w.heap.size, 0, none⟩) 0 0) (([] : List Int).map encI) := o1
  repeat (any_goals (
    conv => whnf
    first
    | ((with_reducible refine BIF.dec ?_ ?_) <;> intro _)
    | ((with_reducible refine BIF.s ?_ ?_) <;> intro _)
    | (with_reducible refine NEXTK.normal ?_)
    | (with_reducible refine NEXTK.ret ?_)
    | (with_reducible refine NEXTK.exit ?_)
    | (with_reducible refine SEQ.plain ?_)
    | (with_reducible refine hK _ _ ?_)
    | ((with_reducible refine RUNL.agg (fun _ => ?_) ?_); (focus kernel_rfl))
    | (with_reducible refine RUNL.run ?_)
    | ((with_reducible refine AR.ok ?_ ?_); exact ⟨by first | omega | (dsimp only; omega), by first | omega | (dsimp only; omega)⟩)
    | (with_reducible refine AR.wr ?_)
    | ((with_reducible intro w3 e3); try have z3 := cutLe e3)
    | ((with_reducible intro h3); have h4 := Nat.le_of_lt h3; clear h4)))
  conv => whnf
  refine LOOP.mk (Nat × (Option Addr × Nat × Nat)) (fun g => [(8, .v (.int .i64 ((g.1 : Int) + 1))), (7, .v (.slice g.2.1 g.2.2.1 g.2.2.2))])
    (fun g wr => g.1 ≤ 6 ∧ w.heap.size ≤ wr.heap.size ∧ Own wr w.heap.size 3 1 (.slice g.2.1 g.2.2.1 g.2.2.2) ((freeUp xs f u g.1).map encI)) (fun g => 6 - g.1) (0, (some ⟨w.heap.size, 0, none⟩, 0, 0)) rfl ⟨rfl, rfl, trivial⟩ ⟨by simp only; omega, by show w.heap.size ≤ w1.heap.size; omega, o1⟩ ?_
  clear o1
  rintro ⟨k, ⟨a1, m1, c1⟩⟩ wr - ⟨hk, hwr, hown⟩
  simp only at hk hwr hown
  have hml := hown.row.2
  rw [List.length_map] at hml
  have hfl := freeUp_len xs f u k
  dsimp only
  conv => whnf
  repeat (first | ((with_reducible refine NEXTK.normal ?_); conv => whnf) | ((with_reducible refine NEXTK.exit ?_); conv => whnf) | ((with_reducible refine NEXTK.ret ?_); conv => whnf) | ((with_reducible refine SEQ.plain ?_); conv => whnf) | ((with_reducible refine AR.ok ?_ ?_); exact ⟨by omega, by omega⟩; conv => whnf))
  refine BIF.dec (fun hlt => ?_) (fun hlt => ?_)
  · have hnext : freeUp xs f u (k + 1) = freeUp xs f u k ++ (if xs.any (seatK ((k : Int) + 1) f u) then [] else [(k : Int) + 1]) := rfl
    repeat (any_goals (
      conv => whnf
      first
      | ((with_reducible refine BIF.dec ?_ ?_) <;> intro _)
      | ((with_reducible refine BIF.s ?_ ?_) <;> intro _)
      | (with_reducible refine NEXTK.normal ?_)
      | (with_reducible refine NEXTK.ret ?_)
      | (with_reducible refine NEXTK.exit ?_)
      | (with_reducible refine SEQ.plain ?_)
      | (with_reducible refine hK _ _ ?_)
      | ((with_reducible refine RUNL.agg (fun _ => ?_) ?_); (focus kernel_rfl))
      | (with_reducible refine RUNL.run ?_)
      | ((with_reducible refine AR.ok ?_ ?_); exact ⟨by first | omega | (dsimp only; omega), by first | omega | (dsimp only; omega)⟩)
      | (with_reducible refine AR.wr ?_)
      | ((with_reducible intro w3 e3); try have z3 := cutLe e3)
      | ((with_reducible intro h3); have h4 := Nat.le_of_lt h3; clear h4)))
    conv => whnf
    refine LOOP.mk (Nat × TV) (fun g => [(10, .v (.int .i64 g.1)), (9, g.2)]) (fun g ws => g.1 ≤ n ∧ w.heap.size ≤ ws.heap.size ∧ TB g.2 ((xs.take g.1).any (seatK ((k : Int) + 1) f u)) ∧ Own ws w.heap.size 3 1 (.slice a1 m1 c1) ((freeUp xs f u k).map encI)) (fun g => n - g.1) (0, .ff) rfl ⟨rfl, rfl, trivial⟩ ⟨Nat.zero_le _, hwr, by simp [TB], hown⟩ ?_
    clear hown
    rintro ⟨j, tv⟩ ws - ⟨hj, hws, htv, hown⟩
    simp only at hj hws htv hown
    have oL := fun k h => hown.block (k := k) h
    dsimp only
    by_cases hjn : j < xs.length
    · have his := hr.isSome (by simp; omega)
      obtain ⟨x, hx⟩ : ∃ x, xs[j]? = some x := ⟨xs[j]'hjn, by simp⟩
      have hany : (xs.take (j + 1)).any (seatK ((k : Int) + 1) f u) = ((xs.take j).any (seatK ((k : Int) + 1) f u) || seatK ((k : Int) + 1) f u x) := by
        rw [List.take_add_one, hx]; simp
      rcases htv with ⟨rfl, hb⟩ | ⟨rfl, hb⟩ | rfl
      all_goals
        repeat (any_goals (
          conv => whnf
          first
          | ((with_reducible refine BIF.dec ?_ ?_) <;> intro _)
          | ((exfalso; omega))
          | ((with_reducible refine BIF.not ?_))
          | ((with_reducible refine BIF.s ?_ ?_) <;> intro hb)
          | ((with_reducible refine OBL.mk ?_ (fun _ => ?_)); exact ⟨by first | omega | (dsimp only; omega), by first | omega | (dsimp only; omega), his⟩)
          | ((with_reducible refine ELD.at (j) hr ?_ ?_ ?_ (fun x' hx' => ?_)); exact mAddr_Non _; (first | rfl | omega); exact hjn; obtain rfl : x = x' := by (rw [hx] at hx'; exact Option.some.inj hx'))
          | ((with_reducible refine BIF.beq ?_ ?_) <;> intro hsq)
          | ((with_reducible refine callF (g := 22) ?_ ?_); kernel_rfl; refine ⟨_, l30Meet_c _ _ _ _, ?_⟩; intro w4 e4; have z4 := cutLe e4 ; replace hown := hown.e0 e4)
          | ((with_reducible intro w3 e3); have z3 := cutLe e3; replace hown := hown.ext e3 (by first | exact fun _ _ h => h | (intro k hk h; have hh := oL k hk; simp only [bk] at h; omega)))
          | ((with_reducible refine BIF.dec ?_ ?_) <;> intro _)
          | ((with_reducible refine BIF.s ?_ ?_) <;> intro _)
          | (with_reducible refine NEXTK.normal ?_)
          | (with_reducible refine NEXTK.ret ?_)
          | (with_reducible refine NEXTK.exit ?_)
          | (with_reducible refine SEQ.plain ?_)
          | (with_reducible refine hK _ _ ?_)
          | ((with_reducible refine RUNL.agg (fun _ => ?_) ?_); (focus kernel_rfl))
          | (with_reducible refine RUNL.run ?_)
          | ((with_reducible refine AR.ok ?_ ?_); exact ⟨by first | omega | (dsimp only; omega), by first | omega | (dsimp only; omega)⟩)
          | (with_reducible refine AR.wr ?_)
          | ((with_reducible intro w3 e3); try have z3 := cutLe e3)
          | ((with_reducible intro h3); have h4 := Nat.le_of_lt h3; clear h4)))
        all_goals
          refine ⟨(j + 1, _), ?_, ⟨rfl, rfl, trivial⟩, rfl, rfl, ⟨by simp only; omega, by dsimp only; omega, ?_, hown⟩, by simp only; omega⟩
          · rfl
          · rw [hany]
            simp_all [TB, seatK]
    · have hjl : j = xs.length := by omega
      rw [hjl, List.take_length] at htv
      rcases htv with ⟨rfl, hb⟩ | ⟨rfl, hb⟩ | rfl
      all_goals
        repeat (any_goals (
          conv => whnf
          first
          | ((with_reducible refine BIF.dec ?_ ?_) <;> intro _)
          | ((exfalso; omega))
          | ((with_reducible refine BIF.not ?_))
          | ((with_reducible refine BIF.s ?_ ?_) <;> intro hb)
          | ((with_reducible refine bsS elemI [.int .i64 ((k : Int) + 1)] ?_ ?_ ?_ ?_ ?_); (focus rfl); (focus rfl); (focus (intro v hv; simp at hv; subst hv; rfl)); (focus omega); intro w9 e9 oB; have z9 := cutLe e9; (try replace oC := oC.e0 e9) ; replace hown := hown.e0 e9)
          | ((with_reducible refine apS (ns := [encI ((k : Int) + 1)]) elemI hown ?_ ?_ ?_ ?_ ?_ ?_ (fun v2 w2 x2 o2 => ?_)); (focus exact oB.row.1); (focus rfl); (focus (intro l hl; simp at hl; subst hl; rfl)); (focus exact ⟨by simp; omega, by simp; omega⟩); (focus exact ⟨(by show w.heap.size ≤ _; omega), by omega⟩); (focus exact trivial); have z2 := cutLe x2; clear hown; obtain ⟨a2, c2, m2, q2⟩ : ∃ a2 c2 m2, v2 = .slice a2 m2 c2 := (by obtain ⟨a2, c2, h, _⟩ := o2.form; exact ⟨a2, c2, _, h⟩); subst q2; have hown := o2; clear o2)
          | ((with_reducible refine BIF.dec ?_ ?_) <;> intro _)
          | ((with_reducible refine BIF.s ?_ ?_) <;> intro _)
          | (with_reducible refine NEXTK.normal ?_)
          | (with_reducible refine NEXTK.ret ?_)
          | (with_reducible refine NEXTK.exit ?_)
          | (with_reducible refine SEQ.plain ?_)
          | (with_reducible refine hK _ _ ?_)
          | ((with_reducible refine RUNL.agg (fun _ => ?_) ?_); (focus kernel_rfl))
          | (with_reducible refine RUNL.run ?_)
          | ((with_reducible refine AR.ok ?_ ?_); exact ⟨by first | omega | (dsimp only; omega), by first | omega | (dsimp only; omega)⟩)
          | (with_reducible refine AR.wr ?_)
          | ((with_reducible intro w3 e3); try have z3 := cutLe e3)
          | ((with_reducible intro h3); have h4 := Nat.le_of_lt h3; clear h4)))
        all_goals
          refine ⟨(k + 1, (_, _, _)), rfl, ⟨rfl, rfl, trivial⟩, rfl, rfl, ⟨by simp only; omega, by dsimp only; omega, ?_⟩, by simp only; omega⟩
          first
          | (have hn2 : freeUp xs f u (k + 1) = freeUp xs f u k := by rw [hnext, hb]; simp
             simp only [hn2]; exact hown)
          | (have hn2 : freeUp xs f u (k + 1) = freeUp xs f u k ++ [(k : Int) + 1] := by rw [hnext, hb]; simp
             simp only [hn2, List.map_append]; exact hown)
  · have hk6 : k = 6 := by omega
    repeat (any_goals (
      conv => whnf
      first
      | ((with_reducible refine BIF.dec ?_ ?_) <;> intro _)
      | ((with_reducible refine BIF.s ?_ ?_) <;> intro _)
      | (with_reducible refine NEXTK.normal ?_)
      | (with_reducible refine NEXTK.ret ?_)
      | (with_reducible refine NEXTK.exit ?_)
      | (with_reducible refine SEQ.plain ?_)
      | (with_reducible refine hK _ _ ?_)
      | ((with_reducible refine RUNL.agg (fun _ => ?_) ?_); (focus kernel_rfl))
      | (with_reducible refine RUNL.run ?_)
      | ((with_reducible refine AR.ok ?_ ?_); exact ⟨by first | omega | (dsimp only; omega), by first | omega | (dsimp only; omega)⟩)
      | (with_reducible refine AR.wr ?_)
      | ((with_reducible intro w3 e3); try have z3 := cutLe e3)
      | ((with_reducible intro h3); have h4 := Nat.le_of_lt h3; clear h4)))
    intro hx
    rw [hk6] at hown
    exact ⟨_, rfl, hx, hown⟩
theorem FreeSeatsS_c (a : Option Addr) (n c : Nat) (xs : List Vis) (f u : Int) (w : World) (hr : Row w a 4 (xs.map encVis)) (hn : xs.length = n) (hm : n ≤ 1048577) :
    Calls Try.prog 5 #[.slice a n c, .int .i64 f, .int .i64 u] w fun e w' => ∃ v, e = .returned v ∧ E0 w w' ∧ ∃ s, v = .tuple #[s, .bool (freeP xs f u).2] ∧ Own w' w.heap.size 3 1 s ((freeP xs f u).1.map encI) := by
  refine enterK Non 22 Try.func5 rfl rfl rfl fun K hK => ?_
  by_cases hg : areV xs = true ∧ timeB f u = true
  · have hf : freeP xs f u = (freeUp xs f u 6, true) := by simp [freeP, hg]
    repeat (any_goals (
      conv => whnf
      first
      | ((with_reducible refine callF (g := 13) ?_ ?_); kernel_rfl; refine ⟨_, l30Good_c _ _ _ xs _ (by repeat (first | assumption | refine Row.e0 ?_ (by assumption))) hn (by omega), ?_⟩; intro w4 e4; have z4 := cutLe e4)
      | ((with_reducible refine callF (g := 14) ?_ ?_); kernel_rfl; refine ⟨_, l30Time_c _ _ _, ?_⟩; intro w4 e4; have z4 := cutLe e4)
      | ((with_reducible refine BIF.s (fun h => absurd h ?_) (fun _ => ?_)); focus (simp [hg.1]; done))
      | ((with_reducible refine BIF.s (fun _ => ?_) (fun h => absurd h ?_)); rotate_left; focus (simp [hg.1]; done))
      | ((with_reducible refine BIF.s (fun h => absurd h ?_) (fun _ => ?_)); focus (simp [hg.2]; done))
      | ((with_reducible refine BIF.s (fun _ => ?_) (fun h => absurd h ?_)); rotate_left; focus (simp [hg.2]; done))
      | ((with_reducible refine callY (g := 15) ?_ ?_); kernel_rfl; refine ⟨_, fun x => l30Free_c _ _ _ xs _ _ _ (hr.ext x (mAddr_Non _)) hn (by omega), ?_⟩; intro r5 w5 e5 o5; have z6 := cutLe e5; obtain ⟨b5, d5, rfl, q5, z5⟩ := o5.rowx)
      | ((with_reducible refine BIF.dec ?_ ?_) <;> intro _)
      | ((with_reducible refine BIF.s ?_ ?_) <;> intro _)
      | (with_reducible refine NEXTK.normal ?_)
      | (with_reducible refine NEXTK.ret ?_)
      | (with_reducible refine NEXTK.exit ?_)
      | (with_reducible refine SEQ.plain ?_)
      | (with_reducible refine hK _ _ ?_)
      | ((with_reducible refine RUNL.agg (fun _ => ?_) ?_); (focus kernel_rfl))
      | (with_reducible refine RUNL.run ?_)
      | ((with_reducible refine AR.ok ?_ ?_); exact ⟨by first | omega | (dsimp only; omega), by first | omega | (dsimp only; omega)⟩)
      | (with_reducible refine AR.wr ?_)
      | ((with_reducible intro w3 e3); try have z3 := cutLe e3)
      | ((with_reducible intro h3); have h4 := Nat.le_of_lt h3; clear h4)))
    intro hx
    rw [hf]
    exact ⟨_, rfl, hx, _, rfl, o5.lo (by omega)⟩
  · have hf : freeP xs f u = ([], false) := by
      unfold freeP
      rw [if_neg]
      simpa using hg
    repeat (any_goals (
      conv => whnf
      first
      | ((with_reducible refine callF (g := 13) ?_ ?_); kernel_rfl; refine ⟨_, l30Good_c _ _ _ xs _ (by repeat (first | assumption | refine Row.e0 ?_ (by assumption))) hn (by omega), ?_⟩; intro w4 e4; have z4 := cutLe e4)
      | ((with_reducible refine callF (g := 14) ?_ ?_); kernel_rfl; refine ⟨_, l30Time_c _ _ _, ?_⟩; intro w4 e4; have z4 := cutLe e4)
      | ((with_reducible refine BIF.s ?_ ?_) <;> intro _)
      | ((with_reducible refine bsS elemI [] rfl rfl (by simp) (by omega) (fun w9 e9 o9 => ?_)); have z9 := cutLe e9)
      | ((exfalso; clear hK; simp_all; done))
      | ((with_reducible refine BIF.dec ?_ ?_) <;> intro _)
      | ((with_reducible refine BIF.s ?_ ?_) <;> intro _)
      | (with_reducible refine NEXTK.normal ?_)
      | (with_reducible refine NEXTK.ret ?_)
      | (with_reducible refine NEXTK.exit ?_)
      | (with_reducible refine SEQ.plain ?_)
      | (with_reducible refine hK _ _ ?_)
      | ((with_reducible refine RUNL.agg (fun _ => ?_) ?_); (focus kernel_rfl))
      | (with_reducible refine RUNL.run ?_)
      | ((with_reducible refine AR.ok ?_ ?_); exact ⟨by first | omega | (dsimp only; omega), by first | omega | (dsimp only; omega)⟩)
      | (with_reducible refine AR.wr ?_)
      | ((with_reducible intro w3 e3); try have z3 := cutLe e3)
      | ((with_reducible intro h3); have h4 := Nat.le_of_lt h3; clear h4)))
    all_goals
      intro hx'
      rw [hf]
      exact ⟨_, rfl, hx', _, rfl, (by clear hx'; repeat (first | exact o9 | exact o9.lo (by omega) | refine Own.e0 ?_ (by assumption)))⟩

end Go.Proofs.Ythnkfimeipjehaa

/- Untouched sheets. -/
import Derived.Test.YtgopcppegjhmiaaDoorRows
import Derived.Test.YtgopcppegjhmiaaDoorRep4
namespace Go.Proofs.YtgopcppegjhmiaaDoor
open Go Go.X Go.Proofs Go.ChangeShapes Go.WideShapes Go.ChangeAt Go.RowKit
open Go.ChangeMaps (open_string shut_string)
set_option maxHeartbeats 1000000
set_option maxRecDepth 20000
set_option linter.unusedVariables false
set_option linter.unusedSimpArgs false
def touchB (ys : List Rep) (d : Dmg) : Bool := ys.any (fun r => decide (r.fSheet = d.fSheet))
def untK (ys : List Rep) (d : Dmg) : Bool := decide (0 < gradeD d) && !touchB ys d
def untL (xs : List Dmg) (ys : List Rep) : List Int := (xs.filter (untK ys)).map (·.fSheet)
def untP (xs : List Dmg) (ys : List Rep) : List Int × Bool := if areR xs ys then (untL xs ys, true) else ([], false)
theorem untL_take {xs : List Dmg} {k : Nat} {x : Dmg} (ys : List Rep) (h : xs[k]? = some x) : untL (xs.take (k + 1)) ys = untL (xs.take k) ys ++ (if untK ys x then [x.fSheet] else []) := by
  unfold untL
  rw [List.take_add_one, h, List.filter_append, List.map_append]
  congr 1
  cases hc : untK ys x <;> simp [hc]
theorem untL_len (xs : List Dmg) (ys : List Rep) : (untL xs ys).length ≤ xs.length := by
  unfold untL
  rw [List.length_map]
  exact List.length_filter_le _ _
theorem untP_len (xs : List Dmg) (ys : List Rep) : (untP xs ys).1.length ≤ xs.length := by
  unfold untP
  split
  · exact untL_len xs ys
  · simp
theorem untouched1_c (r : Rep) (d : Dmg) (p : Addr) (w : World) (hp : Row w (some p) 4 [encDmg d]) :
    Calls Tryd.prog 47 #[.agg (encRep r).toArray, .pointer (some p)] w fun e w' => e = .returned (.bool (decide (r.fSheet = d.fSheet))) ∧ E0 w w' := by
  refine enterK Non 9 Tryd.func47 rfl rfl rfl fun K hK => ?_
  repeat (any_goals (
    conv => whnf
    first
    | ((with_reducible refine ELD.old [encDmg d] (encDmg d) hp ?_ ?_ ?_); exact mAddr_Non _; rfl)
    | ((with_reducible refine BIF.dec ?_ ?_) <;> intro _)
    | ((with_reducible refine BIF.s ?_ ?_) <;> intro _)
    | (with_reducible refine NEXTK.normal ?_)
    | (with_reducible refine NEXTK.ret ?_)
    | (with_reducible refine NEXTK.exit ?_)
    | (with_reducible refine SEQ.plain ?_)
    | (with_reducible refine hK _ _ ?_)
    | ((with_reducible refine RUNL.agg (fun _ => ?_) ?_); (focus kernel_rfl))
    | (with_reducible refine RUNL.run ?_)
    | ((with_reducible refine AR.ok ?_ ?_); exact ⟨by first | omega | (dsimp only; omega), by first | omega | (dsimp only; omega)⟩)
    | (with_reducible refine AR.wr ?_)
    | ((with_reducible intro w3 e3); try have z3 := cutLe e3)
    | ((with_reducible intro h3); have h4 := Nat.le_of_lt h3; clear h4)))
  all_goals
    intro hx
    exact ⟨rfl, hx⟩
theorem UntouchedSheets_c (a b : Option Addr) (n c m d : Nat) (xs : List Dmg) (ys : List Rep) (w : World) (hr : Row w a 4 (xs.map encDmg)) (hs : Row w b 3 (ys.map encRep)) (hn : xs.length = n) (hm : ys.length = m) (hn1 : n ≤ 4611686018427387904) (hm1 : m ≤ 4611686018427387904) (hc : m ≤ d ∧ d < 9223372036854775808) :
    Calls Tryd.prog 18 #[.slice a n c, .slice b m d] w fun e w' => ∃ v, e = .returned v ∧ E0 w w' ∧ ∃ s, v = .tuple #[s, .bool (untP xs ys).2] ∧ Own w' w.heap.size 3 1 s ((untP xs ys).1.map encI) := by
  refine enterK Non 35 Tryd.func18 rfl rfl rfl fun K hK => ?_
  cases g1 : areR xs ys with
  | false =>
    have hf : untP xs ys = ([], false) := by simp [untP, g1]
    repeat (any_goals (
      conv => whnf
      first
      | ((with_reducible refine callF (g := 31) ?_ ?_); kernel_rfl; refine ⟨_, AreRepairs_c _ _ _ _ _ _ xs ys _ (by repeat (first | assumption | refine Row.e0 ?_ (by assumption))) (by repeat (first | assumption | refine Row.e0 ?_ (by assumption))) hn hm hn1 hm1 hc, ?_⟩; intro w4 e4; have z4 := cutLe e4)
      | ((with_reducible refine BIF.s (fun h => absurd h ?_) (fun _ => ?_)); focus (simp [g1]; done))
      | ((with_reducible refine BIF.s (fun _ => ?_) (fun h => absurd h ?_)); rotate_left; focus (simp [g1]; done))
      | ((with_reducible refine BIF.dec ?_ ?_) <;> intro _)
      | ((with_reducible refine BIF.s ?_ ?_) <;> intro _)
      | (with_reducible refine NEXTK.normal ?_)
      | (with_reducible refine NEXTK.ret ?_)
      | (with_reducible refine NEXTK.exit ?_)
      | (with_reducible refine SEQ.plain ?_)
      | (with_reducible refine hK _ _ ?_)
      | ((with_reducible refine RUNL.agg (fun _ => ?_) ?_); (focus kernel_rfl))
      | (with_reducible refine RUNL.run ?_)
      | ((with_reducible refine AR.ok ?_ ?_); exact ⟨by first | omega | (dsimp only; omega), by first | omega | (dsimp only; omega)⟩)
      | (with_reducible refine AR.wr ?_)
      | ((with_reducible intro w3 e3); try have z3 := cutLe e3)
      | ((with_reducible intro h3); have h4 := Nat.le_of_lt h3; clear h4)))
    intro hx'
    rw [hf]
    exact ⟨_, rfl, hx', _, rfl, Own.nil _ _ _ _⟩
  | true =>
    have hf : untP xs ys = (untL xs ys, true) := by simp [untP, g1]
    have hl10 := areD_len (areR_spec g1).1
    have hl12 := (areR_spec g1).2.1
    repeat (any_goals (
      conv => whnf
      first
      | ((with_reducible refine callF (g := 31) ?_ ?_); kernel_rfl; refine ⟨_, AreRepairs_c _ _ _ _ _ _ xs ys _ (by repeat (first | assumption | refine Row.e0 ?_ (by assumption))) (by repeat (first | assumption | refine Row.e0 ?_ (by assumption))) hn hm hn1 hm1 hc, ?_⟩; intro w4 e4; have z4 := cutLe e4)
      | ((with_reducible refine BIF.s (fun h => absurd h ?_) (fun _ => ?_)); focus (simp [g1]; done))
      | ((with_reducible refine BIF.s (fun _ => ?_) (fun h => absurd h ?_)); rotate_left; focus (simp [g1]; done))
      | ((with_reducible refine BIF.dec ?_ ?_) <;> intro _)
      | ((with_reducible refine BIF.s ?_ ?_) <;> intro _)
      | (with_reducible refine NEXTK.normal ?_)
      | (with_reducible refine NEXTK.ret ?_)
      | (with_reducible refine NEXTK.exit ?_)
      | (with_reducible refine SEQ.plain ?_)
      | (with_reducible refine hK _ _ ?_)
      | ((with_reducible refine RUNL.agg (fun _ => ?_) ?_); (focus kernel_rfl))
      | (with_reducible refine RUNL.run ?_)
      | ((with_reducible refine AR.ok ?_ ?_); exact ⟨by first | omega | (dsimp only; omega), by first | omega | (dsimp only; omega)⟩)
      | (with_reducible refine AR.wr ?_)
      | ((with_reducible intro w3 e3); try have z3 := cutLe e3)
      | ((with_reducible intro h3); have h4 := Nat.le_of_lt h3; clear h4)))
    conv => whnf
    refine LOOP.mk (Nat × (Option Addr × Nat × Nat)) (fun g => [(15, .v (.int .i64 g.1)), (6, .v (.slice g.2.1 g.2.2.1 g.2.2.2))]) (fun g wr => g.1 ≤ n ∧ w.heap.size ≤ wr.heap.size ∧ Own wr w.heap.size 3 1 (.slice g.2.1 g.2.2.1 g.2.2.2) ((untL (xs.take g.1) ys).map encI)) (fun g => n - g.1) (0, (none, 0, 0)) rfl ⟨rfl, rfl, trivial⟩ ⟨Nat.zero_le _, by show w.heap.size ≤ w4.heap.size; omega, Own.nil _ _ _ _⟩ ?_
    rintro ⟨k, ⟨a1, m1, c1⟩⟩ wr - ⟨hk, hz, hown⟩
    simp only at hk hz hown
    have oL := fun k h => hown.block (k := k) h
    have hml := hown.row.2
    rw [List.length_map] at hml
    have hfl := untL_len (xs.take k) ys
    rw [List.length_take] at hfl
    dsimp only
    conv => whnf
    repeat (first | ((with_reducible refine NEXTK.normal ?_); conv => whnf) | ((with_reducible refine NEXTK.exit ?_); conv => whnf) | ((with_reducible refine NEXTK.ret ?_); conv => whnf) | ((with_reducible refine SEQ.plain ?_); conv => whnf) | ((with_reducible refine AR.ok ?_ ?_); exact ⟨by omega, by omega⟩; conv => whnf))
    refine BIF.dec (fun hlt => ?_) (fun hlt => ?_)
    · have hlt' : k < xs.length := by omega
      have his := hr.isSome (by simp; omega)
      obtain ⟨x, hx⟩ : ∃ x, xs[k]? = some x := ⟨xs[k]'hlt', by simp⟩
      have hxo := areD_at (areR_spec g1).1 hx
      have hnext := untL_take ys hx
      repeat (any_goals (
        conv => whnf
        first
        | ((with_reducible refine OBL.mk ?_ (fun _ => ?_)); exact ⟨by first | omega | (dsimp only; omega), by first | omega | (dsimp only; omega), his⟩)
        | ((with_reducible refine ELD.at (k) hr ?_ ?_ ?_ (fun x' hx' => ?_)); exact mAddr_Non _; (first | rfl | omega); exact hlt'; obtain rfl : x = x' := by (rw [hx] at hx'; exact Option.some.inj hx'))
        | ((with_reducible intro w3 e3); have z3 := cutLe e3; replace hown := hown.ext e3 (by first | exact fun _ _ h => h | (intro k hk h; have hh := oL k hk; simp only [bk] at h; omega)))
        | ((with_reducible refine callF (g := 39) ?_ ?_); kernel_rfl; refine ⟨_, grade_c _ _ hxo, ?_⟩; intro w4 e4; have z4 := cutLe e4 ; replace hown := hown.e0 e4)
        | ((with_reducible refine BIF.dec (fun (hg : 0 < gradeD x) => ?_) (fun hg => ?_)))
        | ((with_reducible refine callXB (g := 46) ?_ ?_); kernel_rfl; intro x0 hbx; refine ⟨_, ContainsFuncRep_c (fun r => decide (r.fSheet = x.fSheet)) _ _ _ ys _ _ _ (hs.ext x0 (mAddr_Non _)) hm (by omega) (by kernel_rfl) (fun y _ w' e => untouched1_c y x _ _ ((Boxes.row hbx 0 _ _ _ rfl).e0 e)), ?_⟩; clear x0 hbx; intro w4 e4; have z4 := cutLe e4; replace hown := hown.e0 e4)
        | ((with_reducible refine BIF.not ?_))
        | ((with_reducible refine BIF.s (fun (ht : ys.any (fun r => decide (r.fSheet = x.fSheet)) = true) => ?_) (fun ht => ?_)))
        | ((with_reducible refine bsS elemI [.int .i64 x.fSheet] ?_ ?_ ?_ ?_ ?_); (focus rfl); (focus rfl); (focus (intro v hv; simp at hv; subst hv; rfl)); (focus omega); intro w9 e9 oB; have z9 := cutLe e9; (try replace oC := oC.e0 e9) ; replace hown := hown.e0 e9)
        | ((with_reducible refine BIF.dec ?_ ?_) <;> intro _)
        | ((with_reducible refine BIF.s ?_ ?_) <;> intro _)
        | (with_reducible refine NEXTK.normal ?_)
        | (with_reducible refine NEXTK.ret ?_)
        | (with_reducible refine NEXTK.exit ?_)
        | (with_reducible refine SEQ.plain ?_)
        | (with_reducible refine hK _ _ ?_)
        | ((with_reducible refine RUNL.agg (fun _ => ?_) ?_); (focus kernel_rfl))
        | (with_reducible refine RUNL.run ?_)
        | ((with_reducible refine AR.ok ?_ ?_); exact ⟨by first | omega | (dsimp only; omega), by first | omega | (dsimp only; omega)⟩)
        | (with_reducible refine AR.wr ?_)
        | ((with_reducible intro w3 e3); try have z3 := cutLe e3)
        | ((with_reducible intro h3); have h4 := Nat.le_of_lt h3; clear h4)))
      all_goals first
        | (have ht2 : touchB ys x = true := ht
           have hn2 : untL (xs.take (k + 1)) ys = untL (xs.take k) ys := by rw [hnext]; simp [untK, hg, ht2]
           exact ⟨(k + 1, (a1, m1, c1)), rfl, ⟨rfl, rfl, trivial⟩, rfl, rfl, ⟨by simp only; omega, by dsimp only; omega, by simp only [hn2]; exact hown⟩, by simp only; omega⟩)
        | (have hn2 : untL (xs.take (k + 1)) ys = untL (xs.take k) ys := by rw [hnext]; simp [untK, hg]
           exact ⟨(k + 1, (a1, m1, c1)), rfl, ⟨rfl, rfl, trivial⟩, rfl, rfl, ⟨by simp only; omega, by dsimp only; omega, by simp only [hn2]; exact hown⟩, by simp only; omega⟩)
        | skip
      have ht2 : touchB ys x = false := ht
      have hn2 : untL (xs.take (k + 1)) ys = untL (xs.take k) ys ++ [x.fSheet] := by rw [hnext]; simp [untK, hg, ht2]
      conv => whnf
      refine apS (ns := [encI x.fSheet]) elemI hown oB.row.1 rfl (by intro l hl; simp at hl; subst hl; rfl) ⟨by simp; omega, by simp; omega⟩ ⟨(by show w.heap.size ≤ _; omega), by omega⟩ (by repeat (first | exact trivial | (refine ⟨?_, ?_⟩; (focus (intro h; have hh := oL _ h; dsimp only at hh; omega))))) (fun v2 w2 x2 o2 => ?_)
      have z2 := cutLe x2
      replace o2 : Own w2 w.heap.size 3 1 v2 ((untL (xs.take (k + 1)) ys).map encI) := by rw [hn2]; simpa using o2
      obtain ⟨b2, d2, rfl, q2, p2⟩ := o2.rowx
      repeat (any_goals (
        conv => whnf
        first
        | ((with_reducible refine BIF.dec ?_ ?_) <;> intro _)
        | ((with_reducible refine BIF.s ?_ ?_) <;> intro _)
        | (with_reducible refine NEXTK.normal ?_)
        | (with_reducible refine NEXTK.ret ?_)
        | (with_reducible refine NEXTK.exit ?_)
        | (with_reducible refine SEQ.plain ?_)
        | (with_reducible refine hK _ _ ?_)
        | ((with_reducible refine RUNL.agg (fun _ => ?_) ?_); (focus kernel_rfl))
        | (with_reducible refine RUNL.run ?_)
        | ((with_reducible refine AR.ok ?_ ?_); exact ⟨by first | omega | (dsimp only; omega), by first | omega | (dsimp only; omega)⟩)
        | (with_reducible refine AR.wr ?_)
        | ((with_reducible intro w3 e3); try have z3 := cutLe e3)
        | ((with_reducible intro h3); have h4 := Nat.le_of_lt h3; clear h4)))
      exact ⟨(k + 1, (b2, _, d2)), rfl, ⟨rfl, rfl, trivial⟩, rfl, rfl, ⟨by simp only; omega, by show w.heap.size ≤ w2.heap.size; omega, o2⟩, by simp only; omega⟩
    · have hkj : k = xs.length := by omega
      rw [hkj, List.take_length] at hown
      repeat (any_goals (
        conv => whnf
        first
        | ((with_reducible refine BIF.dec ?_ ?_) <;> intro _)
        | ((with_reducible refine BIF.s ?_ ?_) <;> intro _)
        | (with_reducible refine NEXTK.normal ?_)
        | (with_reducible refine NEXTK.ret ?_)
        | (with_reducible refine NEXTK.exit ?_)
        | (with_reducible refine SEQ.plain ?_)
        | (with_reducible refine hK _ _ ?_)
        | ((with_reducible refine RUNL.agg (fun _ => ?_) ?_); (focus kernel_rfl))
        | (with_reducible refine RUNL.run ?_)
        | ((with_reducible refine AR.ok ?_ ?_); exact ⟨by first | omega | (dsimp only; omega), by first | omega | (dsimp only; omega)⟩)
        | (with_reducible refine AR.wr ?_)
        | ((with_reducible intro w3 e3); try have z3 := cutLe e3)
        | ((with_reducible intro h3); have h4 := Nat.le_of_lt h3; clear h4)))
      intro hx'
      rw [hf]
      exact ⟨_, rfl, hx', _, rfl, hown⟩
theorem UntouchedSheetsS_c (a b : Option Addr) (n c m d : Nat) (xs : List Dmg) (ys : List Rep) (w : World) (hr : Row w a 4 (xs.map encDmg)) (hs : Row w b 3 (ys.map encRep)) (hn : xs.length = n) (hm : ys.length = m) (hn1 : n ≤ 4611686018427387904) (hm1 : m ≤ 4611686018427387904) (hc : m ≤ d ∧ d < 9223372036854775808) :
    Calls Tryd.prog 19 #[.slice a n c, .slice b m d] w fun e w' => ∃ v, e = .returned v ∧ E0 w w' ∧ ∃ s, v = .tuple #[s, .bool (untP xs ys).2] ∧ Own w' w.heap.size 3 1 s ((untP xs ys).1.map encI) := by
  refine enterK Non 61 Tryd.func19 rfl rfl rfl fun K hK => ?_
  cases g1 : areR xs ys with
  | false =>
    have hf : untP xs ys = ([], false) := by simp [untP, g1]
    repeat (any_goals (
      conv => whnf
      first
      | ((with_reducible refine bsS elemI [] rfl rfl (by simp) (by omega) (fun w9 e9 o9 => ?_)); have z9 := cutLe e9)
      | ((with_reducible refine callF (g := 33) ?_ ?_); kernel_rfl; refine ⟨_, l22Good_c _ _ _ _ _ _ xs ys _ (by repeat (first | assumption | refine Row.e0 ?_ (by assumption))) (by repeat (first | assumption | refine Row.e0 ?_ (by assumption))) hn hm hn1 hm1 hc, ?_⟩; intro w4 e4; have z4 := cutLe e4)
      | ((with_reducible refine BIF.s (fun h => absurd h ?_) (fun _ => ?_)); focus (simp [g1]; done))
      | ((with_reducible refine BIF.s (fun _ => ?_) (fun h => absurd h ?_)); rotate_left; focus (simp [g1]; done))
      | ((with_reducible refine BIF.dec ?_ ?_) <;> intro _)
      | ((with_reducible refine BIF.s ?_ ?_) <;> intro _)
      | (with_reducible refine NEXTK.normal ?_)
      | (with_reducible refine NEXTK.ret ?_)
      | (with_reducible refine NEXTK.exit ?_)
      | (with_reducible refine SEQ.plain ?_)
      | (with_reducible refine hK _ _ ?_)
      | ((with_reducible refine RUNL.agg (fun _ => ?_) ?_); (focus kernel_rfl))
      | (with_reducible refine RUNL.run ?_)
      | ((with_reducible refine AR.ok ?_ ?_); exact ⟨by first | omega | (dsimp only; omega), by first | omega | (dsimp only; omega)⟩)
      | (with_reducible refine AR.wr ?_)
      | ((with_reducible intro w3 e3); try have z3 := cutLe e3)
      | ((with_reducible intro h3); have h4 := Nat.le_of_lt h3; clear h4)))
    intro hx'
    rw [hf]
    exact ⟨_, rfl, hx', _, rfl, (by clear hx'; repeat (first | exact o9 | exact o9.lo (by omega) | refine Own.e0 ?_ (by assumption)))⟩
  | true =>
    have hf : untP xs ys = (untL xs ys, true) := by simp [untP, g1]
    have hl10 := areD_len (areR_spec g1).1
    have hl12 := (areR_spec g1).2.1
    conv => whnf
    repeat (first | ((with_reducible refine NEXTK.normal ?_); conv => whnf) | ((with_reducible refine NEXTK.exit ?_); conv => whnf) | ((with_reducible refine NEXTK.ret ?_); conv => whnf) | ((with_reducible refine SEQ.plain ?_); conv => whnf) | ((with_reducible refine AR.ok ?_ ?_); exact ⟨by omega, by omega⟩; conv => whnf))
    refine bsS elemI [] rfl rfl (by simp) (by omega) (fun w1 e1 o1 => ?_)
    have z1 := cutLe e1
    replace o1 : Own w1 w.heap.size 3 1 (.slice (some ⟨w.heap.size, 0, none⟩) 0 0) (([] : List Int).map encI) := o1
    repeat (any_goals (
      conv => whnf
      first
      | ((with_reducible refine callF (g := 33) ?_ ?_); kernel_rfl; refine ⟨_, l22Good_c _ _ _ _ _ _ xs ys _ (by repeat (first | assumption | refine Row.e0 ?_ (by assumption))) (by repeat (first | assumption | refine Row.e0 ?_ (by assumption))) hn hm hn1 hm1 hc, ?_⟩; intro w4 e4; have z4 := cutLe e4 ; replace o1 := o1.e0 e4)
      | ((with_reducible refine BIF.s (fun h => absurd h ?_) (fun _ => ?_)); focus (simp [g1]; done))
      | ((with_reducible refine BIF.s (fun _ => ?_) (fun h => absurd h ?_)); rotate_left; focus (simp [g1]; done))
      | ((with_reducible refine BIF.dec ?_ ?_) <;> intro _)
      | ((with_reducible refine BIF.s ?_ ?_) <;> intro _)
      | (with_reducible refine NEXTK.normal ?_)
      | (with_reducible refine NEXTK.ret ?_)
      | (with_reducible refine NEXTK.exit ?_)
      | (with_reducible refine SEQ.plain ?_)
      | (with_reducible refine hK _ _ ?_)
      | ((with_reducible refine RUNL.agg (fun _ => ?_) ?_); (focus kernel_rfl))
      | (with_reducible refine RUNL.run ?_)
      | ((with_reducible refine AR.ok ?_ ?_); exact ⟨by first | omega | (dsimp only; omega), by first | omega | (dsimp only; omega)⟩)
      | (with_reducible refine AR.wr ?_)
      | ((with_reducible intro w3 e3); try have z3 := cutLe e3)
      | ((with_reducible intro h3); have h4 := Nat.le_of_lt h3; clear h4)))
    conv => whnf
    refine LOOP.mk (Nat × (Option Addr × Nat × Nat)) (fun g => [(7, .v (.int .i64 g.1)), (6, .v (.slice g.2.1 g.2.2.1 g.2.2.2))]) (fun g wr => g.1 ≤ n ∧ w.heap.size ≤ wr.heap.size ∧ Own wr w.heap.size 3 1 (.slice g.2.1 g.2.2.1 g.2.2.2) ((untL (xs.take g.1) ys).map encI)) (fun g => n - g.1) (0, (some ⟨w.heap.size, 0, none⟩, 0, 0)) rfl ⟨rfl, rfl, trivial⟩ ⟨Nat.zero_le _, by show w.heap.size ≤ w4.heap.size; omega, o1⟩ ?_
    clear o1
    rintro ⟨k, ⟨a1, m1, c1⟩⟩ wr - ⟨hk, hz, hown⟩
    simp only at hk hz hown
    have hml := hown.row.2
    rw [List.length_map] at hml
    have hfl := untL_len (xs.take k) ys
    rw [List.length_take] at hfl
    dsimp only
    conv => whnf
    repeat (first | ((with_reducible refine NEXTK.normal ?_); conv => whnf) | ((with_reducible refine NEXTK.exit ?_); conv => whnf) | ((with_reducible refine NEXTK.ret ?_); conv => whnf) | ((with_reducible refine SEQ.plain ?_); conv => whnf) | ((with_reducible refine AR.ok ?_ ?_); exact ⟨by omega, by omega⟩; conv => whnf))
    refine BIF.dec (fun hlt => ?_) (fun hlt => ?_)
    · have hlt' : k < xs.length := by omega
      have his := hr.isSome (by simp; omega)
      obtain ⟨x, hx⟩ : ∃ x, xs[k]? = some x := ⟨xs[k]'hlt', by simp⟩
      have hxo := areD_at (areR_spec g1).1 hx
      have hnext := untL_take ys hx
      repeat (any_goals (
        conv => whnf
        first
        | ((with_reducible refine BIF.dec ?_ ?_) <;> intro _)
        | ((with_reducible refine BIF.s ?_ ?_) <;> intro _)
        | (with_reducible refine NEXTK.normal ?_)
        | (with_reducible refine NEXTK.ret ?_)
        | (with_reducible refine NEXTK.exit ?_)
        | (with_reducible refine SEQ.plain ?_)
        | (with_reducible refine hK _ _ ?_)
        | ((with_reducible refine RUNL.agg (fun _ => ?_) ?_); (focus kernel_rfl))
        | (with_reducible refine RUNL.run ?_)
        | ((with_reducible refine AR.ok ?_ ?_); exact ⟨by first | omega | (dsimp only; omega), by first | omega | (dsimp only; omega)⟩)
        | (with_reducible refine AR.wr ?_)
        | ((with_reducible intro w3 e3); try have z3 := cutLe e3)
        | ((with_reducible intro h3); have h4 := Nat.le_of_lt h3; clear h4)))
      conv => whnf
      refine LOOP.mk (Nat × TV) (fun g => [(9, .v (.int .i64 g.1)), (8, g.2)]) (fun g ws => g.1 ≤ m ∧ w.heap.size ≤ ws.heap.size ∧ TB g.2 ((ys.take g.1).any (fun r => decide (r.fSheet = x.fSheet))) ∧ Own ws w.heap.size 3 1 (.slice a1 m1 c1) ((untL (xs.take k) ys).map encI)) (fun g => m - g.1) (0, .ff) rfl ⟨rfl, rfl, trivial⟩ ⟨Nat.zero_le _, hz, by simp [TB], hown⟩ ?_
      clear hown
      rintro ⟨j, tv⟩ ws - ⟨hj, hws, htv, hown⟩
      simp only at hj hws htv hown
      have oL := fun k h => hown.block (k := k) h
      dsimp only
      by_cases hjn : j < ys.length
      · have his2 := hs.isSome (by simp; omega)
        obtain ⟨r, hr1⟩ : ∃ r, ys[j]? = some r := ⟨ys[j]'hjn, by simp⟩
        have hany : (ys.take (j + 1)).any (fun r => decide (r.fSheet = x.fSheet)) = ((ys.take j).any (fun r => decide (r.fSheet = x.fSheet)) || decide (r.fSheet = x.fSheet)) := by
          rw [List.take_add_one, hr1]; simp
        rcases htv with ⟨rfl, hb⟩ | ⟨rfl, hb⟩ | rfl
        all_goals
          repeat (any_goals (
            conv => whnf
            first
            | ((with_reducible refine BIF.dec (fun (h : (j : Int) < m) => ?_) (fun h => absurd (by omega) h)))
            | ((with_reducible refine DRAW.quietE ?_ ?_ ?_); kernel_rfl; kernel_rfl)
            | ((with_reducible refine BIF.s ?_ ?_) <;> intro hb)
            | ((with_reducible refine OBL.mk ?_ (fun _ => ?_)); exact ⟨by first | omega | (dsimp only; omega), by first | omega | (dsimp only; omega), his⟩)
            | ((with_reducible refine OBL.mk ?_ (fun _ => ?_)); exact ⟨by first | omega | (dsimp only; omega), by first | omega | (dsimp only; omega), his2⟩)
            | ((with_reducible refine ELD.at (j) hs ?_ ?_ ?_ (fun x' hx' => ?_)); exact mAddr_Non _; (first | rfl | omega); exact hjn; obtain rfl : r = x' := by (rw [hr1] at hx'; exact Option.some.inj hx'))
            | ((with_reducible refine ELD.at (k) hr ?_ ?_ ?_ (fun x' hx' => ?_)); exact mAddr_Non _; (first | rfl | omega); exact hlt'; obtain rfl : x = x' := by (rw [hx] at hx'; exact Option.some.inj hx'))
            | ((with_reducible intro w3 e3); have z3 := cutLe e3; replace hown := hown.ext e3 (by first | exact fun _ _ h => h | (intro k hk h; have hh := oL k hk; simp only [bk] at h; omega)))
            | ((with_reducible refine BIF.dec ?_ ?_) <;> intro _)
            | ((with_reducible refine BIF.s ?_ ?_) <;> intro _)
            | (with_reducible refine NEXTK.normal ?_)
            | (with_reducible refine NEXTK.ret ?_)
            | (with_reducible refine NEXTK.exit ?_)
            | (with_reducible refine SEQ.plain ?_)
            | (with_reducible refine hK _ _ ?_)
            | ((with_reducible refine RUNL.agg (fun _ => ?_) ?_); (focus kernel_rfl))
            | (with_reducible refine RUNL.run ?_)
            | ((with_reducible refine AR.ok ?_ ?_); exact ⟨by first | omega | (dsimp only; omega), by first | omega | (dsimp only; omega)⟩)
            | (with_reducible refine AR.wr ?_)
            | ((with_reducible intro w3 e3); try have z3 := cutLe e3)
            | ((with_reducible intro h3); have h4 := Nat.le_of_lt h3; clear h4)))
          all_goals
            refine ⟨(j + 1, _), ?_, ⟨rfl, rfl, trivial⟩, rfl, rfl, ⟨by simp only; omega, by dsimp only; omega, ?_, hown⟩, by simp only; omega⟩
            · rfl
            · rw [hany, hb]
              first
              | exact .inl ⟨rfl, by simp⟩
              | exact .inr (.inr (by rw [Bool.false_or]; rfl))
      · have hjl : j = ys.length := by omega
        rw [hjl, List.take_length] at htv
        rcases htv with ⟨rfl, ht⟩ | ⟨rfl, ht⟩ | rfl
        all_goals
          repeat (any_goals (
            conv => whnf
            first
            | ((with_reducible refine BIF.dec (fun (h : (j : Int) < m) => absurd h (by omega)) (fun h => ?_)))
            | ((with_reducible refine BIF.not ?_))
            | ((with_reducible refine BIF.s (fun (ht : ys.any (fun r => decide (r.fSheet = x.fSheet)) = true) => ?_) (fun ht => ?_)))
            | ((with_reducible refine OBL.mk ?_ (fun _ => ?_)); exact ⟨by first | omega | (dsimp only; omega), by first | omega | (dsimp only; omega), his⟩)
            | ((with_reducible refine ELD.at (k) hr ?_ ?_ ?_ (fun x' hx' => ?_)); exact mAddr_Non _; (first | rfl | omega); exact hlt'; obtain rfl : x = x' := by (rw [hx] at hx'; exact Option.some.inj hx'))
            | ((with_reducible refine callF (g := 42) ?_ ?_); kernel_rfl; refine ⟨_, l22Grade_c _ _ hxo, ?_⟩; intro w4 e4; have z4 := cutLe e4 ; replace hown := hown.e0 e4)
            | ((with_reducible refine BIF.dec (fun (hg : 0 < gradeD x) => ?_) (fun hg => ?_)))
            | ((with_reducible refine bsS elemI [.int .i64 x.fSheet] ?_ ?_ ?_ ?_ ?_); (focus rfl); (focus rfl); (focus (intro v hv; simp at hv; subst hv; rfl)); (focus omega); intro w9 e9 oB; have z9 := cutLe e9; (try replace oC := oC.e0 e9) ; replace hown := hown.e0 e9)
            | ((with_reducible refine apS (ns := [encI x.fSheet]) elemI hown ?_ ?_ ?_ ?_ ?_ ?_ (fun v2 w2 x2 o2 => ?_)); (focus exact oB.row.1); (focus rfl); (focus (intro l hl; simp at hl; subst hl; rfl)); (focus exact ⟨by simp; omega, by simp; omega⟩); (focus exact ⟨(by show w.heap.size ≤ _; omega), by omega⟩); (focus exact trivial); have z2 := cutLe x2; clear hown; obtain ⟨a2, c2, m2, q2⟩ : ∃ a2 c2 m2, v2 = .slice a2 m2 c2 := (by obtain ⟨a2, c2, h, _⟩ := o2.form; exact ⟨a2, c2, _, h⟩); subst q2; have hown := o2; clear o2)
            | ((with_reducible refine BIF.dec ?_ ?_) <;> intro _)
            | ((with_reducible refine BIF.s ?_ ?_) <;> intro _)
            | (with_reducible refine NEXTK.normal ?_)
            | (with_reducible refine NEXTK.ret ?_)
            | (with_reducible refine NEXTK.exit ?_)
            | (with_reducible refine SEQ.plain ?_)
            | (with_reducible refine hK _ _ ?_)
            | ((with_reducible refine RUNL.agg (fun _ => ?_) ?_); (focus kernel_rfl))
            | (with_reducible refine RUNL.run ?_)
            | ((with_reducible refine AR.ok ?_ ?_); exact ⟨by first | omega | (dsimp only; omega), by first | omega | (dsimp only; omega)⟩)
            | (with_reducible refine AR.wr ?_)
            | ((with_reducible intro w3 e3); try have z3 := cutLe e3)
            | ((with_reducible intro h3); have h4 := Nat.le_of_lt h3; clear h4)))
          all_goals
            refine ⟨(k + 1, (_, _, _)), rfl, ⟨rfl, rfl, trivial⟩, rfl, rfl, ⟨by simp only; omega, by dsimp only; omega, ?_⟩, by simp only; omega⟩
            first
            | (have ht2 : touchB ys x = true := ht
               have hn2 : untL (xs.take (k + 1)) ys = untL (xs.take k) ys := by rw [hnext]; simp [untK, ht2]
               simp only [hn2]; exact hown)
            | (have hn2 : untL (xs.take (k + 1)) ys = untL (xs.take k) ys := by rw [hnext]; simp [untK, hg]
               simp only [hn2]; exact hown)
            | (have ht2 : touchB ys x = false := ht
               have hn2 : untL (xs.take (k + 1)) ys = untL (xs.take k) ys ++ [x.fSheet] := by rw [hnext]; simp [untK, ht2, hg]
               simp only [hn2, List.map_append]; exact hown)
    · have hkj : k = xs.length := by omega
      rw [hkj, List.take_length] at hown
      repeat (any_goals (
        conv => whnf
        first
        | ((with_reducible refine BIF.dec ?_ ?_) <;> intro _)
        | ((with_reducible refine BIF.s ?_ ?_) <;> intro _)
        | (with_reducible refine NEXTK.normal ?_)
        | (with_reducible refine NEXTK.ret ?_)
        | (with_reducible refine NEXTK.exit ?_)
        | (with_reducible refine SEQ.plain ?_)
        | (with_reducible refine hK _ _ ?_)
        | ((with_reducible refine RUNL.agg (fun _ => ?_) ?_); (focus kernel_rfl))
        | (with_reducible refine RUNL.run ?_)
        | ((with_reducible refine AR.ok ?_ ?_); exact ⟨by first | omega | (dsimp only; omega), by first | omega | (dsimp only; omega)⟩)
        | (with_reducible refine AR.wr ?_)
        | ((with_reducible intro w3 e3); try have z3 := cutLe e3)
        | ((with_reducible intro h3); have h4 := Nat.le_of_lt h3; clear h4)))
      intro hx'
      rw [hf]
      exact ⟨_, rfl, hx', _, rfl, hown⟩

end Go.Proofs.YtgopcppegjhmiaaDoor

/- LongestWait. -/
import Derived.Test.YtohnoccmaeegdaaGreatDoorRows
import Derived.Test.YtohnoccmaeegdaaGreatDoorGifts8
namespace Go.Proofs.YtohnoccmaeegdaaGreatDoor
open Go Go.X Go.Proofs Go.ChangeShapes Go.WideShapes Go.ChangeAt Go.RowKit
open Go.ChangeMaps (open_string shut_string)
set_option maxHeartbeats 1000000
set_option maxRecDepth 20000
set_option linter.unusedVariables false
set_option linter.unusedSimpArgs false
def cmp3 (a b : Int) : Int := if a < b then -1 else if b < a then 1 else 0
theorem isNaN_c (a : Int) (w : World) : Calls Tryz.prog 69 #[.int .i64 a] w fun e w' => e = .returned (.bool false) ∧ E0 w w' := by
  refine enterK Non 6 Tryz.func69 rfl rfl rfl fun K hK => ?_
  repeat (any_goals (
    conv => whnf
    first
    | ((with_reducible refine BIF.dec ?_ ?_) <;> intro _)
    | ((with_reducible refine BIF.s ?_ ?_) <;> intro _)
    | (with_reducible refine NEXTK.normal ?_)
    | (with_reducible refine NEXTK.ret ?_)
    | (with_reducible refine NEXTK.exit ?_)
    | (with_reducible refine SEQ.plain ?_)
    | (with_reducible refine hK _ _ ?_)
    | ((with_reducible refine RUNL.agg (fun _ => ?_) ?_); (focus kernel_rfl))
    | (with_reducible refine RUNL.run ?_)
    | ((with_reducible refine AR.ok ?_ ?_); exact ⟨by first | omega | (dsimp only; omega), by first | omega | (dsimp only; omega)⟩)
    | (with_reducible refine AR.wr ?_)
    | ((with_reducible intro w3 e3); try have z3 := cutLe e3)
    | ((with_reducible intro h3); have h4 := Nat.le_of_lt h3; clear h4)))
  intro hx
  refine ⟨?_, hx⟩
  simp [resV]
theorem Compare_c (a b : Int) (w : World) : Calls Tryz.prog 40 #[.int .i64 a, .int .i64 b] w fun e w' => e = .returned (.int .i64 (cmp3 a b)) ∧ E0 w w' := by
  refine enterK Non 20 Tryz.func40 rfl rfl rfl fun K hK => ?_
  repeat (any_goals (
    conv => whnf
    first
    | ((with_reducible refine callF (g := 69) ?_ ?_); kernel_rfl; refine ⟨_, isNaN_c _ _, ?_⟩; intro w4 e4; have z4 := cutLe e4)
    | ((with_reducible refine BIF.s (fun h => absurd h ?_) (fun _ => ?_)); focus (first | (simp; done) | (simp; omega)))
    | ((with_reducible refine BIF.s (fun _ => ?_) (fun h => absurd h ?_)); rotate_left; focus (first | (simp; done) | (simp; omega)))
    | ((with_reducible refine BIF.dec ?_ ?_) <;> intro _)
    | ((with_reducible refine BIF.s ?_ ?_) <;> intro _)
    | (with_reducible refine NEXTK.normal ?_)
    | (with_reducible refine NEXTK.ret ?_)
    | (with_reducible refine NEXTK.exit ?_)
    | (with_reducible refine SEQ.plain ?_)
    | (with_reducible refine hK _ _ ?_)
    | ((with_reducible refine RUNL.agg (fun _ => ?_) ?_); (focus kernel_rfl))
    | (with_reducible refine RUNL.run ?_)
    | ((with_reducible refine AR.ok ?_ ?_); exact ⟨by first | omega | (dsimp only; omega), by first | omega | (dsimp only; omega)⟩)
    | (with_reducible refine AR.wr ?_)
    | ((with_reducible intro w3 e3); try have z3 := cutLe e3)
    | ((with_reducible intro h3); have h4 := Nat.le_of_lt h3; clear h4)))
  all_goals
    intro hx
    refine ⟨?_, hx⟩
    unfold cmp3
    clear hK
    first
    | (rw [if_pos (by assumption)]; rfl)
    | (rw [if_neg (by assumption), if_pos (by assumption)]; rfl)
    | (rw [if_neg (by assumption), if_neg (by assumption)]; rfl)
def mxStep (d : Int) (m x : Gft) : Gft := if waitG d m < waitG d x then x else m
def mxUp (d : Int) (y0 : Gft) (ys : List Gft) : Gft := (ys.drop 1).foldl (mxStep d) y0
def mxAt (d : Int) (y0 : Gft) (ys : List Gft) (k : Nat) : Gft := ((ys.take k).drop 1).foldl (mxStep d) y0
theorem mxAt_succ (d : Int) (y0 : Gft) {ys : List Gft} {k : Nat} {x : Gft} (hk : 1 ≤ k) (h : ys[k]? = some x) : mxAt d y0 ys (k + 1) = mxStep d (mxAt d y0 ys k) x := by
  unfold mxAt
  have hl := (List.getElem?_eq_some_iff.1 h).1
  rw [List.take_add_one, h, List.drop_append_of_le_length (by simp; omega), List.foldl_append]
  rfl
theorem mxAt_mem (d : Int) {y0 : Gft} {ys : List Gft} (h0 : ys[0]? = some y0) : ∀ k, 1 ≤ k → k ≤ ys.length → mxAt d y0 ys k ∈ ys
  | 0, h, _ => by omega
  | k + 1, _, hk => by
    by_cases hk1 : k = 0
    · subst hk1
      have : mxAt d y0 ys 1 = y0 := by
        unfold mxAt
        rw [show (ys.take 1).drop 1 = [] from List.drop_eq_nil_of_le (by simp; omega)]; rfl
      rw [this]; exact List.mem_of_getElem? h0
    · obtain ⟨x, hx⟩ : ∃ x, ys[k]? = some x := ⟨ys[k]'(by omega), by simp⟩
      rw [mxAt_succ d y0 (by omega) hx]
      unfold mxStep
      split
      · exact List.mem_of_getElem? hx
      · exact mxAt_mem d h0 k (by omega) (by omega)
theorem LongestWait1_c (x y : Gft) (d : Int) (p : Addr) (w : World) (hx : okG x = true) (hy : okG y = true) (hd : 0 ≤ d ∧ d ≤ 4000) (hp : Row w (some p) 1 [[.int .i64 d]]) :
    Calls Tryz.prog 39 #[.agg (encGft x).toArray, .agg (encGft y).toArray, .pointer (some p)] w fun e w' => e = .returned (.int .i64 (cmp3 (waitG d x) (waitG d y))) ∧ E0 w w' := by
  refine enterK Non 13 Tryz.func39 rfl rfl rfl fun K hK => ?_
  repeat (any_goals (
    conv => whnf
    first
    | ((with_reducible refine DRAW.quietE ?_ ?_ ?_); kernel_rfl; kernel_rfl)
    | ((with_reducible refine BIF.dec ?_ ?_) <;> intro _)
    | ((with_reducible refine BIF.s ?_ ?_) <;> intro _)
    | (with_reducible refine NEXTK.normal ?_)
    | (with_reducible refine NEXTK.ret ?_)
    | (with_reducible refine NEXTK.exit ?_)
    | (with_reducible refine SEQ.plain ?_)
    | (with_reducible refine hK _ _ ?_)
    | ((with_reducible refine RUNL.agg (fun _ => ?_) ?_); (focus kernel_rfl))
    | (with_reducible refine RUNL.run ?_)
    | ((with_reducible refine AR.ok ?_ ?_); exact ⟨by first | omega | (dsimp only; omega), by first | omega | (dsimp only; omega)⟩)
    | (with_reducible refine AR.wr ?_)
    | ((with_reducible intro w3 e3); try have z3 := cutLe e3)
    | ((with_reducible intro h3); have h4 := Nat.le_of_lt h3; clear h4)))
  conv => whnf
  refine ELD.old [[.int .i64 d]] [.int .i64 d] hp (mAddr_Non _) rfl ?_
  conv => whnf
  refine callQ (g := 34) (by kernel_rfl) ⟨_, fun w' _ => wait_c x d w' hx hd, ?_⟩
  conv => whnf
  refine ELD.old [[.int .i64 d]] [.int .i64 d] hp (mAddr_Non _) rfl ?_
  conv => whnf
  refine callQ (g := 34) (by kernel_rfl) ⟨_, fun w' _ => wait_c y d w' hy hd, ?_⟩
  conv => whnf
  refine callQ (g := 40) (by kernel_rfl) ⟨_, fun w' _ => Compare_c _ _ w', ?_⟩
  repeat (any_goals (
    conv => whnf
    first
    | ((with_reducible refine BIF.dec ?_ ?_) <;> intro _)
    | ((with_reducible refine BIF.s ?_ ?_) <;> intro _)
    | (with_reducible refine NEXTK.normal ?_)
    | (with_reducible refine NEXTK.ret ?_)
    | (with_reducible refine NEXTK.exit ?_)
    | (with_reducible refine SEQ.plain ?_)
    | (with_reducible refine hK _ _ ?_)
    | ((with_reducible refine RUNL.agg (fun _ => ?_) ?_); (focus kernel_rfl))
    | (with_reducible refine RUNL.run ?_)
    | ((with_reducible refine AR.ok ?_ ?_); exact ⟨by first | omega | (dsimp only; omega), by first | omega | (dsimp only; omega)⟩)
    | (with_reducible refine AR.wr ?_)
    | ((with_reducible intro w3 e3); try have z3 := cutLe e3)
    | ((with_reducible intro h3); have h4 := Nat.le_of_lt h3; clear h4)))
  intro hx
  exact ⟨rfl, hx⟩
theorem MaxFunc_c (d : Int) (a : Option Addr) (n c : Nat) (ys : List Gft) (y0 : Gft) (f : FuncId) (cap : Array Value) (w : World) (hr : Row w a 5 (ys.map encGft)) (hn : ys.length = n) (hpos : 1 ≤ n) (hm : n ≤ 1048577) (h0 : ys[0]? = some y0) (hb : hasBody Tryz.prog f = true)
    (hf : ∀ x ∈ ys, ∀ y ∈ ys, ∀ w', E0 w w' → Calls Tryz.prog f (#[].toList ++ [Value.agg (encGft x).toArray, Value.agg (encGft y).toArray] ++ cap.toList).toArray w' fun e w'' => e = .returned (.int .i64 (cmp3 (waitG d x) (waitG d y))) ∧ E0 w' w'') :
    Calls Tryz.prog 38 #[.slice a n c, .func (.func f) #[] cap] w fun e w' => e = .returned (.agg (encGft (mxAt d y0 ys n)).toArray) ∧ E0 w w' := by
  refine enterK Non 33 Tryz.func38 rfl rfl rfl fun K hK => ?_
  have his := hr.isSome (by simp; omega)
  have h0l : 0 < ys.length := by omega
  repeat (any_goals (
    conv => whnf
    first
    | ((exfalso; omega))
    | ((with_reducible refine OBL.mk ?_ (fun _ => ?_)); exact ⟨by first | omega | (dsimp only; omega), by first | omega | (dsimp only; omega), his⟩)
    | ((with_reducible refine ELD.at (0) hr ?_ ?_ ?_ (fun x' hx' => ?_)); exact mAddr_Non _; (first | rfl | omega); exact h0l; obtain rfl : y0 = x' := by (rw [h0] at hx'; exact Option.some.inj hx'))
    | ((with_reducible refine BIF.dec ?_ ?_) <;> intro _)
    | ((with_reducible refine BIF.s ?_ ?_) <;> intro _)
    | (with_reducible refine NEXTK.normal ?_)
    | (with_reducible refine NEXTK.ret ?_)
    | (with_reducible refine NEXTK.exit ?_)
    | (with_reducible refine SEQ.plain ?_)
    | (with_reducible refine hK _ _ ?_)
    | ((with_reducible refine RUNL.agg (fun _ => ?_) ?_); (focus kernel_rfl))
    | (with_reducible refine RUNL.run ?_)
    | ((with_reducible refine AR.ok ?_ ?_); exact ⟨by first | omega | (dsimp only; omega), by first | omega | (dsimp only; omega)⟩)
    | (with_reducible refine AR.wr ?_)
    | ((with_reducible intro w3 e3); try have z3 := cutLe e3)
    | ((with_reducible intro h3); have h4 := Nat.le_of_lt h3; clear h4)))
  conv => whnf
  refine LOOP.mkU (Nat × Gft) (fun t => [(6, .v (.int .i64 t.1))]) (fun t => [(1, encGft t.2)]) (fun t _ => 1 ≤ t.1 ∧ t.1 ≤ n ∧ t.2 = mxAt d y0 ys t.1) (fun t => n - t.1) (1, y0) rfl ⟨rfl, trivial⟩ rfl ⟨Nat.le_refl _, hpos, ?_⟩ ?_
  · show y0 = _
    unfold mxAt
    rw [show (ys.take 1).drop 1 = [] from List.drop_eq_nil_of_le (by simp; omega)]; rfl
  rintro ⟨k, m⟩ wr - ⟨hk1, hk, hmx⟩
  simp only at hk1 hk hmx
  have hmm : m ∈ ys := by rw [hmx]; exact mxAt_mem d h0 k hk1 (by omega)
  conv => whnf
  repeat (first | ((with_reducible refine NEXTK.normal ?_); conv => whnf) | ((with_reducible refine NEXTK.exit ?_); conv => whnf) | ((with_reducible refine NEXTK.ret ?_); conv => whnf) | ((with_reducible refine SEQ.plain ?_); conv => whnf) | ((with_reducible refine AR.ok ?_ ?_); exact ⟨by omega, by omega⟩; conv => whnf))
  refine BIF.dec (fun hlt => ?_) (fun hlt => ?_)
  · have hlt' : k < ys.length := by simp only at hlt; omega
    obtain ⟨x, hx⟩ : ∃ x, ys[k]? = some x := ⟨ys[k]'(by omega), by simp⟩
    have hsucc := mxAt_succ d y0 hk1 hx
    rw [← hmx] at hsucc
    by_cases hlw : waitG d m < waitG d x
    · have hc3 : 0 < cmp3 (waitG d x) (waitG d m) := by unfold cmp3; rw [if_neg (by omega), if_pos hlw]; omega
      have hst : mxStep d m x = x := by unfold mxStep; rw [if_pos hlw]
      repeat (any_goals (
        conv => whnf
        first
        | ((with_reducible refine DRAW.quietE ?_ ?_ ?_); kernel_rfl; kernel_rfl)
        | ((with_reducible refine OBL.mk ?_ (fun _ => ?_)); exact ⟨by first | omega | (dsimp only; omega), by first | omega | (dsimp only; omega), his⟩)
        | ((with_reducible refine ELD.at (k) hr ?_ ?_ ?_ (fun x' hx' => ?_)); exact mAddr_Non _; (first | rfl | omega); exact hlt'; obtain rfl : x = x' := by (rw [hx] at hx'; exact Option.some.inj hx'))
        | ((with_reducible refine callQX (g := f) ?_ ?_); exact hb; refine ⟨_, fun w' _ hX => hf x (List.mem_of_getElem? hx) m hmm w' hX, ?_⟩)
        | ((exfalso; omega))
        | ((with_reducible refine BIF.dec ?_ ?_) <;> intro _)
        | ((with_reducible refine BIF.s ?_ ?_) <;> intro _)
        | (with_reducible refine NEXTK.normal ?_)
        | (with_reducible refine NEXTK.ret ?_)
        | (with_reducible refine NEXTK.exit ?_)
        | (with_reducible refine SEQ.plain ?_)
        | (with_reducible refine hK _ _ ?_)
        | ((with_reducible refine RUNL.agg (fun _ => ?_) ?_); (focus kernel_rfl))
        | (with_reducible refine RUNL.run ?_)
        | ((with_reducible refine AR.ok ?_ ?_); exact ⟨by first | omega | (dsimp only; omega), by first | omega | (dsimp only; omega)⟩)
        | (with_reducible refine AR.wr ?_)
        | ((with_reducible intro w3 e3); try have z3 := cutLe e3)
        | ((with_reducible intro h3); have h4 := Nat.le_of_lt h3; clear h4)))
      refine ⟨(k + 1, x), rfl, ⟨rfl, trivial⟩, rfl, rfl, ⟨by simp only; omega, by simp only; omega, by simp only; rw [hsucc, hst]⟩, by simp only; omega⟩
    · have hc3 : ¬ 0 < cmp3 (waitG d x) (waitG d m) := by unfold cmp3; split <;> (try split) <;> omega
      have hst : mxStep d m x = m := by unfold mxStep; rw [if_neg hlw]
      repeat (any_goals (
        conv => whnf
        first
        | ((with_reducible refine DRAW.quietE ?_ ?_ ?_); kernel_rfl; kernel_rfl)
        | ((with_reducible refine OBL.mk ?_ (fun _ => ?_)); exact ⟨by first | omega | (dsimp only; omega), by first | omega | (dsimp only; omega), his⟩)
        | ((with_reducible refine ELD.at (k) hr ?_ ?_ ?_ (fun x' hx' => ?_)); exact mAddr_Non _; (first | rfl | omega); exact hlt'; obtain rfl : x = x' := by (rw [hx] at hx'; exact Option.some.inj hx'))
        | ((with_reducible refine callQX (g := f) ?_ ?_); exact hb; refine ⟨_, fun w' _ hX => hf x (List.mem_of_getElem? hx) m hmm w' hX, ?_⟩)
        | ((exfalso; omega))
        | ((with_reducible refine BIF.dec ?_ ?_) <;> intro _)
        | ((with_reducible refine BIF.s ?_ ?_) <;> intro _)
        | (with_reducible refine NEXTK.normal ?_)
        | (with_reducible refine NEXTK.ret ?_)
        | (with_reducible refine NEXTK.exit ?_)
        | (with_reducible refine SEQ.plain ?_)
        | (with_reducible refine hK _ _ ?_)
        | ((with_reducible refine RUNL.agg (fun _ => ?_) ?_); (focus kernel_rfl))
        | (with_reducible refine RUNL.run ?_)
        | ((with_reducible refine AR.ok ?_ ?_); exact ⟨by first | omega | (dsimp only; omega), by first | omega | (dsimp only; omega)⟩)
        | (with_reducible refine AR.wr ?_)
        | ((with_reducible intro w3 e3); try have z3 := cutLe e3)
        | ((with_reducible intro h3); have h4 := Nat.le_of_lt h3; clear h4)))
      refine ⟨(k + 1, m), rfl, ⟨rfl, trivial⟩, rfl, rfl, ⟨by simp only; omega, by simp only; omega, by simp only; rw [hsucc, hst]⟩, by simp only; omega⟩
  · have hkn : k = n := by simp only at hlt; omega
    subst hkn
    repeat (any_goals (
      conv => whnf
      first
      | ((with_reducible refine BIF.dec ?_ ?_) <;> intro _)
      | ((with_reducible refine BIF.s ?_ ?_) <;> intro _)
      | (with_reducible refine NEXTK.normal ?_)
      | (with_reducible refine NEXTK.ret ?_)
      | (with_reducible refine NEXTK.exit ?_)
      | (with_reducible refine SEQ.plain ?_)
      | (with_reducible refine hK _ _ ?_)
      | ((with_reducible refine RUNL.agg (fun _ => ?_) ?_); (focus kernel_rfl))
      | (with_reducible refine RUNL.run ?_)
      | ((with_reducible refine AR.ok ?_ ?_); exact ⟨by first | omega | (dsimp only; omega), by first | omega | (dsimp only; omega)⟩)
      | (with_reducible refine AR.wr ?_)
      | ((with_reducible intro w3 e3); try have z3 := cutLe e3)
      | ((with_reducible intro h3); have h4 := Nat.le_of_lt h3; clear h4)))
    intro hx
    refine ⟨?_, hx⟩
    rw [← hmx]; rfl
def lwStep (d : Int) (s : Int × Int) (x : Gft) : Int × Int := if s.2 < waitG d x then (x.fId, waitG d x) else s
def lwUp (d : Int) (ys : List Gft) : Int × Int := ys.foldl (lwStep d) (0, -1)
theorem lw_mx (d : Int) {ys : List Gft} {y0 : Gft} (h0 : ys[0]? = some y0) (hw : ∀ y ∈ ys, 0 ≤ waitG d y) : ∀ k, 1 ≤ k → k ≤ ys.length → lwUp d (ys.take k) = ((mxAt d y0 ys k).fId, waitG d (mxAt d y0 ys k))
  | 0, h, _ => by omega
  | k + 1, _, hk => by
    by_cases hk1 : k = 0
    · subst hk1
      have e1 : mxAt d y0 ys 1 = y0 := by
        unfold mxAt
        rw [show (ys.take 1).drop 1 = [] from List.drop_eq_nil_of_le (by simp; omega)]; rfl
      have e2 : ys.take 1 = [y0] := by
        rw [List.take_add_one, h0]; rfl
      have := hw y0 (List.mem_of_getElem? h0)
      rw [e1, e2]
      show lwStep d (0, -1) y0 = _
      unfold lwStep
      rw [if_pos (by simp only; omega)]
    · obtain ⟨x, hx⟩ : ∃ x, ys[k]? = some x := ⟨ys[k]'(by omega), by simp⟩
      have ih := lw_mx d h0 hw k (by omega) (by omega)
      rw [mxAt_succ d y0 (by omega) hx]
      have : lwUp d (ys.take (k + 1)) = lwStep d (lwUp d (ys.take k)) x := by
        unfold lwUp
        rw [List.take_add_one, hx]; simp
      rw [this, ih]
      unfold lwStep mxStep
      by_cases h : waitG d (mxAt d y0 ys k) < waitG d x
      · rw [if_pos h, if_pos h]
      · rw [if_neg h, if_neg h]
def lwOk (xs : List Gft) (d : Int) : Bool := areG xs && inB d 0 4000 && decide (0 < (fil d xs).length)
def lwP (xs : List Gft) (d : Int) : Int × Int × Bool := if lwOk xs d then ((lwUp d (fil d xs)).1, (lwUp d (fil d xs)).2, true) else (0, 0, false)
theorem LongestWait_c (a : Option Addr) (n c : Nat) (xs : List Gft) (d : Int) (w : World) (hr : Row w a 5 (xs.map encGft)) (hn : xs.length = n) (hm : n ≤ 1048577) :
    Calls Tryz.prog 12 #[.slice a n c, .int .i64 d] w fun e w' => e = .returned (.tuple #[.int .i64 (lwP xs d).1, .int .i64 (lwP xs d).2.1, .bool (lwP xs d).2.2]) ∧ E0 w w' := by
  refine enterK Non 33 Tryz.func12 rfl rfl rfl fun K hK => ?_
  repeat (any_goals (
    conv => whnf
    first
    | ((with_reducible refine BIF.dec ?_ ?_) <;> intro _)
    | ((with_reducible refine BIF.s ?_ ?_) <;> intro _)
    | (with_reducible refine NEXTK.normal ?_)
    | (with_reducible refine NEXTK.ret ?_)
    | (with_reducible refine NEXTK.exit ?_)
    | (with_reducible refine SEQ.plain ?_)
    | (with_reducible refine hK _ _ ?_)
    | ((with_reducible refine RUNL.agg (fun _ => ?_) ?_); (focus kernel_rfl))
    | (with_reducible refine RUNL.run ?_)
    | ((with_reducible refine AR.ok ?_ ?_); exact ⟨by first | omega | (dsimp only; omega), by first | omega | (dsimp only; omega)⟩)
    | (with_reducible refine AR.wr ?_)
    | ((with_reducible intro w3 e3); try have z3 := cutLe e3)
    | ((with_reducible intro h3); have h4 := Nat.le_of_lt h3; clear h4)))
  conv => whnf
  refine callY (g := 33) (by kernel_rfl) ⟨_, fun x => arrived_c _ _ _ xs d _ (hr.ext x (mAddr_Non _)) hn (by omega), fun r w5 e5 oA => ?_⟩
  have z5 := cutLe e5
  obtain ⟨ys, hys⟩ : ∃ ys, ys = fil d xs := ⟨_, rfl⟩
  rw [← hys] at oA
  obtain ⟨b5, d5, rfl, q5, p5⟩ := oA.rowx
  by_cases ho : areG xs = true ∧ inB d 0 4000 = true ∧ 0 < ys.length
  · have hl := areG_len ho.1
    have hd := inB_iff.1 ho.2.1
    have hyl : ys.length ≤ 12 := by rw [hys]; exact Nat.le_trans (fil_len d xs) hl
    have hpos := ho.2.2
    have hok : ∀ y ∈ ys, okG y = true ∧ y.fDay ≤ d := fun y hy => by
      have := fil_mem (d := d) (xs := xs) (x := y) (by rw [← hys]; exact hy)
      exact ⟨areG_ok ho.1 y this.1, this.2⟩
    obtain ⟨y0, h0⟩ : ∃ y, ys[0]? = some y := ⟨ys[0]'(by omega), by simp⟩
    have hmem := mxAt_mem d h0 ys.length (by omega) (Nat.le_refl _)
    have hlw := lw_mx d h0 (fun y hy => (waitG_bnd (hok y hy).1 hd (hok y hy).2).1) ys.length (by omega) (Nat.le_refl _)
    rw [List.take_length] at hlw
    obtain ⟨M, hM⟩ : ∃ M, M = mxAt d y0 ys ys.length := ⟨_, rfl⟩
    rw [← hM] at hmem hlw
    have hMok := (hok M hmem).1
    have hf : lwP xs d = (M.fId, waitG d M, true) := by
      unfold lwP lwOk
      rw [← hys, hlw, if_pos (by simp [ho])]
    repeat (any_goals (
      conv => whnf
      first
      | ((with_reducible refine callX (g := 26) ?_ ?_); kernel_rfl; intro hX; refine ⟨_, AreGifts_c _ _ _ xs _ (hr.ext hX (mAddr_Non _)) hn (by omega), ?_⟩; intro w4 e4; have z4 := cutLe e4; replace oA := oA.e0 e4)
      | ((with_reducible refine callF (g := 28) ?_ ?_); kernel_rfl; refine ⟨_, isDay_c _ _, ?_⟩; intro w4 e4; have z4 := cutLe e4; replace oA := oA.e0 e4)
      | ((with_reducible refine BIF.beq ?_ ?_) <;> intro _)
      | ((exfalso; omega))
      | ((exfalso; clear hK; simp_all; done))
      | ((with_reducible refine RUN.mk (fun _ => rfl) ?_))
      | ((with_reducible refine BIF.dec ?_ ?_) <;> intro _)
      | ((with_reducible refine BIF.s ?_ ?_) <;> intro _)
      | (with_reducible refine NEXTK.normal ?_)
      | (with_reducible refine NEXTK.ret ?_)
      | (with_reducible refine NEXTK.exit ?_)
      | (with_reducible refine SEQ.plain ?_)
      | (with_reducible refine hK _ _ ?_)
      | ((with_reducible refine RUNL.agg (fun _ => ?_) ?_); (focus kernel_rfl))
      | (with_reducible refine RUNL.run ?_)
      | ((with_reducible refine AR.ok ?_ ?_); exact ⟨by first | omega | (dsimp only; omega), by first | omega | (dsimp only; omega)⟩)
      | (with_reducible refine AR.wr ?_)
      | ((with_reducible intro w3 e3); try have z3 := cutLe e3)
      | ((with_reducible intro h3); have h4 := Nat.le_of_lt h3; clear h4)))
    conv => whnf
    refine callB (g := 38) (by kernel_rfl) fun hbx => ⟨_, MaxFunc_c d _ _ _ ys y0 _ _ _ oA.row.1 rfl hpos (by omega) h0 (by kernel_rfl) (fun x hx y hy w' e => LongestWait1_c x y d _ _ (hok x hx).1 (hok y hy).1 hd ((Boxes.row hbx 0 _ _ _ rfl).e0 e)), fun w6 e6 => ?_⟩
    rw [← hM]
    repeat (any_goals (
      conv => whnf
      first
      | ((with_reducible refine DRAW.quietE ?_ ?_ ?_); kernel_rfl; kernel_rfl)
      | ((with_reducible refine callQ (g := 34) ?_ ?_); kernel_rfl; refine ⟨_, fun w' _ => wait_c M d w' hMok hd, ?_⟩)
      | ((with_reducible refine BIF.dec ?_ ?_) <;> intro _)
      | ((with_reducible refine BIF.s ?_ ?_) <;> intro _)
      | (with_reducible refine NEXTK.normal ?_)
      | (with_reducible refine NEXTK.ret ?_)
      | (with_reducible refine NEXTK.exit ?_)
      | (with_reducible refine SEQ.plain ?_)
      | (with_reducible refine hK _ _ ?_)
      | ((with_reducible refine RUNL.agg (fun _ => ?_) ?_); (focus kernel_rfl))
      | (with_reducible refine RUNL.run ?_)
      | ((with_reducible refine AR.ok ?_ ?_); exact ⟨by first | omega | (dsimp only; omega), by first | omega | (dsimp only; omega)⟩)
      | (with_reducible refine AR.wr ?_)
      | ((with_reducible intro w3 e3); try have z3 := cutLe e3)
      | ((with_reducible intro h3); have h4 := Nat.le_of_lt h3; clear h4)))
    intro hx
    rw [hf]
    exact ⟨rfl, hx⟩
  · have hf : lwP xs d = (0, 0, false) := by
      unfold lwP lwOk
      rw [if_neg]
      rw [← hys]
      simpa [and_assoc] using ho
    repeat (any_goals (
      conv => whnf
      first
      | ((with_reducible refine callX (g := 26) ?_ ?_); kernel_rfl; intro hX; refine ⟨_, AreGifts_c _ _ _ xs _ (hr.ext hX (mAddr_Non _)) hn (by omega), ?_⟩; intro w4 e4; have z4 := cutLe e4)
      | ((with_reducible refine callF (g := 28) ?_ ?_); kernel_rfl; refine ⟨_, isDay_c _ _, ?_⟩; intro w4 e4; have z4 := cutLe e4)
      | ((with_reducible refine BIF.beq ?_ ?_) <;> intro _)
      | ((exfalso; refine ho ⟨?_, ?_, ?_⟩; simpa using (by assumption : (!areG xs) = false); simpa using (by assumption : (!inB d 0 4000) = false); omega))
      | ((with_reducible refine BIF.dec ?_ ?_) <;> intro _)
      | ((with_reducible refine BIF.s ?_ ?_) <;> intro _)
      | (with_reducible refine NEXTK.normal ?_)
      | (with_reducible refine NEXTK.ret ?_)
      | (with_reducible refine NEXTK.exit ?_)
      | (with_reducible refine SEQ.plain ?_)
      | (with_reducible refine hK _ _ ?_)
      | ((with_reducible refine RUNL.agg (fun _ => ?_) ?_); (focus kernel_rfl))
      | (with_reducible refine RUNL.run ?_)
      | ((with_reducible refine AR.ok ?_ ?_); exact ⟨by first | omega | (dsimp only; omega), by first | omega | (dsimp only; omega)⟩)
      | (with_reducible refine AR.wr ?_)
      | ((with_reducible intro w3 e3); try have z3 := cutLe e3)
      | ((with_reducible intro h3); have h4 := Nat.le_of_lt h3; clear h4)))
    all_goals
      intro hx
      rw [hf]
      exact ⟨rfl, hx⟩
theorem LongestWaitS_c (a : Option Addr) (n c : Nat) (xs : List Gft) (d : Int) (w : World) (hr : Row w a 5 (xs.map encGft)) (hn : xs.length = n) (hm : n ≤ 1048577) (hg : ∀ x ∈ xs, x.fGiver.size ≤ 9223372036854775807) :
    Calls Tryz.prog 13 #[.slice a n c, .int .i64 d] w fun e w' => e = .returned (.tuple #[.int .i64 (lwP xs d).1, .int .i64 (lwP xs d).2.1, .bool (lwP xs d).2.2]) ∧ E0 w w' := by
  refine enterK Non 51 Tryz.func13 rfl rfl rfl fun K hK => ?_
  by_cases ho : areG xs = true ∧ inB d 0 4000 = true
  · have hl := areG_len ho.1
    have hd := inB_iff.1 ho.2
    repeat (any_goals (
      conv => whnf
      first
      | ((with_reducible refine callF (g := 30) ?_ ?_); kernel_rfl; refine ⟨_, l26Good_c _ _ _ xs _ (by repeat (first | assumption | refine Row.e0 ?_ (by assumption))) hn (by omega) hg, ?_⟩; intro w4 e4; have z4 := cutLe e4)
      | ((with_reducible refine callF (g := 32) ?_ ?_); kernel_rfl; refine ⟨_, l2Day_c _ _, ?_⟩; intro w4 e4; have z4 := cutLe e4)
      | ((exfalso; clear hK; simp_all; done))
      | ((with_reducible refine BIF.dec ?_ ?_) <;> intro _)
      | ((with_reducible refine BIF.s ?_ ?_) <;> intro _)
      | (with_reducible refine NEXTK.normal ?_)
      | (with_reducible refine NEXTK.ret ?_)
      | (with_reducible refine NEXTK.exit ?_)
      | (with_reducible refine SEQ.plain ?_)
      | (with_reducible refine hK _ _ ?_)
      | ((with_reducible refine RUNL.agg (fun _ => ?_) ?_); (focus kernel_rfl))
      | (with_reducible refine RUNL.run ?_)
      | ((with_reducible refine AR.ok ?_ ?_); exact ⟨by first | omega | (dsimp only; omega), by first | omega | (dsimp only; omega)⟩)
      | (with_reducible refine AR.wr ?_)
      | ((with_reducible intro w3 e3); try have z3 := cutLe e3)
      | ((with_reducible intro h3); have h4 := Nat.le_of_lt h3; clear h4)))
    conv => whnf
    refine LOOP.mk (Nat × Int × Int) (fun t => [(9, .v (.int .i64 t.1)), (7, .v (.int .i64 t.2.1)), (8, .v (.int .i64 t.2.2))]) (fun t _ => t.1 ≤ n ∧ t.2 = lwUp d (fil d (xs.take t.1)) ∧ (t.2.1 = 0 → (fil d (xs.take t.1)).length = 0) ∧ ((fil d (xs.take t.1)).length = 0 → t.2 = (0, -1)) ∧ -1 ≤ t.2.2) (fun t => n - t.1) (0, 0, -1) rfl ⟨rfl, rfl, rfl, trivial⟩ ⟨Nat.zero_le _, rfl, fun _ => rfl, fun _ => rfl, by simp⟩ ?_
    rintro ⟨j, best, most⟩ wr - ⟨hj, hs, hz1, hz2, hmo⟩
    simp only at hj hs hz1 hz2 hmo
    conv => whnf
    repeat (first | ((with_reducible refine NEXTK.normal ?_); conv => whnf) | ((with_reducible refine NEXTK.exit ?_); conv => whnf) | ((with_reducible refine NEXTK.ret ?_); conv => whnf) | ((with_reducible refine SEQ.plain ?_); conv => whnf) | ((with_reducible refine AR.ok ?_ ?_); exact ⟨by omega, by omega⟩; conv => whnf))
    refine BIF.dec (fun hlt => ?_) (fun hlt => ?_)
    · have hlt' : j < xs.length := by simp only at hlt; omega
      have his := hr.isSome (by simp; omega)
      obtain ⟨x, hx⟩ : ∃ x, xs[j]? = some x := ⟨xs[j]'(by omega), by simp⟩
      have hok := areG_at ho.1 hx
      have hoks := okG_spec hok
      have hft := fil_take (d := d) hx
      by_cases hxd : x.fDay ≤ d
      · have hwb := waitG_bnd hok hd hxd
        rw [if_pos hxd] at hft
        have hup : lwUp d (fil d (xs.take (j + 1))) = lwStep d (best, most) x := by
          rw [hft, hs]
          unfold lwUp
          rw [List.foldl_append]; rfl
        have hlen : (fil d (xs.take (j + 1))).length = (fil d (xs.take j)).length + 1 := by rw [hft]; simp
        by_cases hgt : most < waitG d x
        · have hst : lwStep d (best, most) x = (x.fId, waitG d x) := by unfold lwStep; rw [if_pos hgt]
          repeat (any_goals (
            conv => whnf
            first
            | ((with_reducible refine OBL.mk ?_ (fun _ => ?_)); exact ⟨by first | omega | (dsimp only; omega), by first | omega | (dsimp only; omega), his⟩)
            | ((with_reducible refine ELD.at (j) hr ?_ ?_ ?_ (fun x' hx' => ?_)); exact mAddr_Non _; (first | rfl | omega); exact hlt'; obtain rfl : x = x' := by (rw [hx] at hx'; exact Option.some.inj hx'))
            | ((with_reducible refine callF (g := 36) ?_ ?_); kernel_rfl; refine ⟨_, l26Wait_c _ _ _ hok hd, ?_⟩; intro w4 e4; have z4 := cutLe e4)
            | ((with_reducible refine BIF.dec ?_ ?_) <;> intro hdq)
            | ((exfalso; (first | omega | (dsimp only at hdq; omega))))
            | ((with_reducible refine BIF.dec ?_ ?_) <;> intro _)
            | ((with_reducible refine BIF.s ?_ ?_) <;> intro _)
            | (with_reducible refine NEXTK.normal ?_)
            | (with_reducible refine NEXTK.ret ?_)
            | (with_reducible refine NEXTK.exit ?_)
            | (with_reducible refine SEQ.plain ?_)
            | (with_reducible refine hK _ _ ?_)
            | ((with_reducible refine RUNL.agg (fun _ => ?_) ?_); (focus kernel_rfl))
            | (with_reducible refine RUNL.run ?_)
            | ((with_reducible refine AR.ok ?_ ?_); exact ⟨by first | omega | (dsimp only; omega), by first | omega | (dsimp only; omega)⟩)
            | (with_reducible refine AR.wr ?_)
            | ((with_reducible intro w3 e3); try have z3 := cutLe e3)
            | ((with_reducible intro h3); have h4 := Nat.le_of_lt h3; clear h4)))
          exact ⟨(j + 1, x.fId, waitG d x), rfl, ⟨rfl, rfl, rfl, trivial⟩, rfl, rfl, ⟨by simp only; omega, by simp only; rw [hup, hst], fun h => by simp only at h; omega, fun h => by simp only at h; omega, by simp only; omega⟩, by simp only; omega⟩
        · have hst : lwStep d (best, most) x = (best, most) := by unfold lwStep; rw [if_neg hgt]
          repeat (any_goals (
            conv => whnf
            first
            | ((with_reducible refine OBL.mk ?_ (fun _ => ?_)); exact ⟨by first | omega | (dsimp only; omega), by first | omega | (dsimp only; omega), his⟩)
            | ((with_reducible refine ELD.at (j) hr ?_ ?_ ?_ (fun x' hx' => ?_)); exact mAddr_Non _; (first | rfl | omega); exact hlt'; obtain rfl : x = x' := by (rw [hx] at hx'; exact Option.some.inj hx'))
            | ((with_reducible refine callF (g := 36) ?_ ?_); kernel_rfl; refine ⟨_, l26Wait_c _ _ _ hok hd, ?_⟩; intro w4 e4; have z4 := cutLe e4)
            | ((with_reducible refine BIF.dec ?_ ?_) <;> intro hdq)
            | ((exfalso; (first | omega | (dsimp only at hdq; omega))))
            | ((with_reducible refine BIF.dec ?_ ?_) <;> intro _)
            | ((with_reducible refine BIF.s ?_ ?_) <;> intro _)
            | (with_reducible refine NEXTK.normal ?_)
            | (with_reducible refine NEXTK.ret ?_)
            | (with_reducible refine NEXTK.exit ?_)
            | (with_reducible refine SEQ.plain ?_)
            | (with_reducible refine hK _ _ ?_)
            | ((with_reducible refine RUNL.agg (fun _ => ?_) ?_); (focus kernel_rfl))
            | (with_reducible refine RUNL.run ?_)
            | ((with_reducible refine AR.ok ?_ ?_); exact ⟨by first | omega | (dsimp only; omega), by first | omega | (dsimp only; omega)⟩)
            | (with_reducible refine AR.wr ?_)
            | ((with_reducible intro w3 e3); try have z3 := cutLe e3)
            | ((with_reducible intro h3); have h4 := Nat.le_of_lt h3; clear h4)))
          refine ⟨(j + 1, best, most), rfl, ⟨rfl, rfl, rfl, trivial⟩, rfl, rfl, ⟨by simp only; omega, by simp only; rw [hup, hst], fun h => ?_, fun h => by simp only at h; omega, hmo⟩, by simp only; omega⟩
          have h1 := hz2 (hz1 h)
          have : most = -1 := (Prod.ext_iff.1 h1).2
          omega
      · rw [if_neg hxd, List.append_nil] at hft
        repeat (any_goals (
          conv => whnf
          first
          | ((with_reducible refine OBL.mk ?_ (fun _ => ?_)); exact ⟨by first | omega | (dsimp only; omega), by first | omega | (dsimp only; omega), his⟩)
          | ((with_reducible refine ELD.at (j) hr ?_ ?_ ?_ (fun x' hx' => ?_)); exact mAddr_Non _; (first | rfl | omega); exact hlt'; obtain rfl : x = x' := by (rw [hx] at hx'; exact Option.some.inj hx'))
          | ((exfalso; omega))
          | ((with_reducible refine BIF.dec ?_ ?_) <;> intro _)
          | ((with_reducible refine BIF.s ?_ ?_) <;> intro _)
          | (with_reducible refine NEXTK.normal ?_)
          | (with_reducible refine NEXTK.ret ?_)
          | (with_reducible refine NEXTK.exit ?_)
          | (with_reducible refine SEQ.plain ?_)
          | (with_reducible refine hK _ _ ?_)
          | ((with_reducible refine RUNL.agg (fun _ => ?_) ?_); (focus kernel_rfl))
          | (with_reducible refine RUNL.run ?_)
          | ((with_reducible refine AR.ok ?_ ?_); exact ⟨by first | omega | (dsimp only; omega), by first | omega | (dsimp only; omega)⟩)
          | (with_reducible refine AR.wr ?_)
          | ((with_reducible intro w3 e3); try have z3 := cutLe e3)
          | ((with_reducible intro h3); have h4 := Nat.le_of_lt h3; clear h4)))
        exact ⟨(j + 1, best, most), rfl, ⟨rfl, rfl, rfl, trivial⟩, rfl, rfl, ⟨by simp only; omega, by simp only; rw [hft]; exact hs, by simp only; rw [hft]; exact hz1, by simp only; rw [hft]; exact hz2, hmo⟩, by simp only; omega⟩
    · have hkj : j = xs.length := by simp only at hlt; omega
      rw [hkj, List.take_length] at hs hz1 hz2
      by_cases hb0 : best = 0
      · have hf : lwP xs d = (0, 0, false) := by
          unfold lwP lwOk
          rw [if_neg]
          have := hz1 hb0
          simp [this]
        subst hb0
        repeat (any_goals (
          conv => whnf
          first
          | ((with_reducible refine BIF.beq ?_ ?_) <;> intro hbq)
          | ((exfalso; (first | omega | (dsimp only at hbq; omega))))
          | ((with_reducible refine BIF.dec ?_ ?_) <;> intro _)
          | ((with_reducible refine BIF.s ?_ ?_) <;> intro _)
          | (with_reducible refine NEXTK.normal ?_)
          | (with_reducible refine NEXTK.ret ?_)
          | (with_reducible refine NEXTK.exit ?_)
          | (with_reducible refine SEQ.plain ?_)
          | (with_reducible refine hK _ _ ?_)
          | ((with_reducible refine RUNL.agg (fun _ => ?_) ?_); (focus kernel_rfl))
          | (with_reducible refine RUNL.run ?_)
          | ((with_reducible refine AR.ok ?_ ?_); exact ⟨by first | omega | (dsimp only; omega), by first | omega | (dsimp only; omega)⟩)
          | (with_reducible refine AR.wr ?_)
          | ((with_reducible intro w3 e3); try have z3 := cutLe e3)
          | ((with_reducible intro h3); have h4 := Nat.le_of_lt h3; clear h4)))
        intro hx
        rw [hf]
        exact ⟨rfl, hx⟩
      · have hlen : 0 < (fil d xs).length := by
          rcases Nat.eq_zero_or_pos (fil d xs).length with h | h
          · have := (Prod.ext_iff.1 (hz2 h)).1
            exact absurd this hb0
          · exact h
        have hf : lwP xs d = (best, most, true) := by
          unfold lwP lwOk
          rw [← hs, if_pos (by simp [ho, hlen])]
        repeat (any_goals (
          conv => whnf
          first
          | ((with_reducible refine BIF.beq ?_ ?_) <;> intro hbq)
          | ((exfalso; (first | omega | (dsimp only at hbq; omega))))
          | ((with_reducible refine BIF.dec ?_ ?_) <;> intro _)
          | ((with_reducible refine BIF.s ?_ ?_) <;> intro _)
          | (with_reducible refine NEXTK.normal ?_)
          | (with_reducible refine NEXTK.ret ?_)
          | (with_reducible refine NEXTK.exit ?_)
          | (with_reducible refine SEQ.plain ?_)
          | (with_reducible refine hK _ _ ?_)
          | ((with_reducible refine RUNL.agg (fun _ => ?_) ?_); (focus kernel_rfl))
          | (with_reducible refine RUNL.run ?_)
          | ((with_reducible refine AR.ok ?_ ?_); exact ⟨by first | omega | (dsimp only; omega), by first | omega | (dsimp only; omega)⟩)
          | (with_reducible refine AR.wr ?_)
          | ((with_reducible intro w3 e3); try have z3 := cutLe e3)
          | ((with_reducible intro h3); have h4 := Nat.le_of_lt h3; clear h4)))
        intro hx
        rw [hf]
        exact ⟨rfl, hx⟩
  · have hf : lwP xs d = (0, 0, false) := by
      unfold lwP lwOk
      rw [if_neg]
      simp only [Bool.and_eq_true]
      exact fun h => ho h.1
    repeat (any_goals (
      conv => whnf
      first
      | ((with_reducible refine callF (g := 30) ?_ ?_); kernel_rfl; refine ⟨_, l26Good_c _ _ _ xs _ (by repeat (first | assumption | refine Row.e0 ?_ (by assumption))) hn (by omega) hg, ?_⟩; intro w4 e4; have z4 := cutLe e4)
      | ((with_reducible refine callF (g := 32) ?_ ?_); kernel_rfl; refine ⟨_, l2Day_c _ _, ?_⟩; intro w4 e4; have z4 := cutLe e4)
      | ((exfalso; clear hK; simp_all; done))
      | ((with_reducible refine BIF.dec ?_ ?_) <;> intro _)
      | ((with_reducible refine BIF.s ?_ ?_) <;> intro _)
      | (with_reducible refine NEXTK.normal ?_)
      | (with_reducible refine NEXTK.ret ?_)
      | (with_reducible refine NEXTK.exit ?_)
      | (with_reducible refine SEQ.plain ?_)
      | (with_reducible refine hK _ _ ?_)
      | ((with_reducible refine RUNL.agg (fun _ => ?_) ?_); (focus kernel_rfl))
      | (with_reducible refine RUNL.run ?_)
      | ((with_reducible refine AR.ok ?_ ?_); exact ⟨by first | omega | (dsimp only; omega), by first | omega | (dsimp only; omega)⟩)
      | (with_reducible refine AR.wr ?_)
      | ((with_reducible intro w3 e3); try have z3 := cutLe e3)
      | ((with_reducible intro h3); have h4 := Nat.le_of_lt h3; clear h4)))
    all_goals
      intro hx
      rw [hf]
      exact ⟨rfl, hx⟩

end Go.Proofs.YtohnoccmaeegdaaGreatDoor

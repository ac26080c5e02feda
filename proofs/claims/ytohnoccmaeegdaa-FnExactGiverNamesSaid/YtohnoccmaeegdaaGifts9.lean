/- LongestWait. -/
import Derived.Test.YtohnoccmaeegdaaRows
import Derived.Test.YtohnoccmaeegdaaGifts8
namespace Go.Proofs.Ytohnoccmaeegdaa
open Go Go.X Go.Proofs Go.ChangeShapes Go.WideShapes Go.ChangeAt Go.RowKit
open Go.ChangeMaps (open_string shut_string)
set_option maxHeartbeats 1000000
set_option maxRecDepth 20000
set_option linter.unusedVariables false
set_option linter.unusedSimpArgs false
def cmp3 (a b : Int) : Int := if a < b then -1 else if b < a then 1 else 0
theorem isNaN_c (a : Int) (w : World) : Calls Try.prog 77 #[.int .i64 a] w fun e w' => e = .returned (.bool false) ∧ E0 w w' := by
  refine enterK Non 6 Try.func77 rfl rfl rfl fun K hK => ?_
  repeat (any_goals (
    conv => whnf
    first
    | ((with_reducible refine BIF.dec ?_ ?_) <;> intro _)
    | ((with_reducible refine BIF.s ?_ ?_) <;> intro _)
    | (with_reducible refine NEXTK.normal ?_)
    | (with_reducible refine NEXTK.ret ?_)
    | (with_reducible refine NEXTK.exit ?_)
    | (with_reducible refine SEQ.plain ?_)
    | (with_reducible refine hK _ _ ?_)
    | ((with_reducible refine RUNL.agg (fun _ => ?_) ?_); (focus kernel_rfl))
    | (with_reducible refine RUNL.run ?_)
    | ((with_reducible refine AR.ok ?_ ?_); exact ⟨by first | omega | (dsimp only; omega), by first | omega | (dsimp only; omega)⟩)
    | (with_reducible refine AR.wr ?_)
    | ((with_reducible intro w3 e3); try have z3 := cutLe e3)
    | ((with_reducible intro h3); have h4 := Nat.le_of_lt h3; clear h4)))
  intro hx
  refine ⟨?_, hx⟩
  simp [resV]
theorem Compare_c (a b : Int) (w : World) : Calls Try.prog 60 #[.int .i64 a, .int .i64 b] w fun e w' => e = .returned (.int .i64 (cmp3 a b)) ∧ E0 w w' := by
  refine enterK Non 20 Try.func60 rfl rfl rfl fun K hK => ?_
  repeat (any_goals (
    conv => whnf
    first
    | ((with_reducible refine callF (g := 77) ?_ ?_); kernel_rfl; refine ⟨_, isNaN_c _ _, ?_⟩; intro w4 e4; have z4 := cutLe e4)
    | ((with_reducible refine BIF.s (fun h => absurd h ?_) (fun _ => ?_)); focus (first | (simp; done) | (simp; omega)))
    | ((with_reducible refine BIF.s (fun _ => ?_) (fun h => absurd h ?_)); rotate_left; focus (first | (simp; done) | (simp; omega)))
    | ((with_reducible refine BIF.dec ?_ ?_) <;> intro _)
    | ((with_reducible refine BIF.s ?_ ?_) <;> intro _)
    | (with_reducible refine NEXTK.normal ?_)
    | (with_reducible refine NEXTK.ret ?_)
    | (with_reducible refine NEXTK.exit ?_)
    | (with_reducible refine SEQ.plain ?_)
    | (with_reducible refine hK _ _ ?_)
    | ((with_reducible refine RUNL.agg (fun _ => ?_) ?_); (focus kernel_rfl))
    | (with_reducible refine RUNL.run ?_)
    | ((with_reducible refine AR.ok ?_ ?_); exact ⟨by first | omega | (dsimp only; omega), by first | omega | (dsimp only; omega)⟩)
    | (with_reducible refine AR.wr ?_)
    | ((with_reducible intro w3 e3); try have z3 := cutLe e3)
    | ((with_reducible intro h3); have h4 := Nat.le_of_lt h3; clear h4)))
  all_goals
    intro hx
    refine ⟨?_, hx⟩
    unfold cmp3
    clear hK
    first
    | (rw [if_pos (by assumption)]; rfl)
    | (rw [if_neg (by assumption), if_pos (by assumption)]; rfl)
    | (rw [if_neg (by assumption), if_neg (by assumption)]; rfl)
def mxStep (d : Int) (m x : Gft) : Gft := if waitG d m < waitG d x then x else m
def mxUp (d : Int) (y0 : Gft) (ys : List Gft) : Gft := (ys.drop 1).foldl (mxStep d) y0
def mxAt (d : Int) (y0 : Gft) (ys : List Gft) (k : Nat) : Gft := ((ys.take k).drop 1).foldl (mxStep d) y0
theorem mxAt_succ (d : Int) (y0 : Gft) {ys : List Gft} {k : Nat} {x : Gft} (hk : 1 ≤ k) (h : ys[k]? = some x) : mxAt d y0 ys (k + 1) = mxStep d (mxAt d y0 ys k) x := by
  unfold mxAt
  have hl := (List.getElem?_eq_some_iff.1 h).1
  rw [List.take_add_one, h, List.drop_append_of_le_length (by simp; omega), List.foldl_append]
  rfl
theorem mxAt_mem (d : Int) {y0 : Gft} {ys : List Gft} (h0 : ys[0]? = some y0) : ∀ k, 1 ≤ k → k ≤ ys.length → mxAt d y0 ys k ∈ ys
  | 0, h, _ => by omega
  | k + 1, _, hk => by
    by_cases hk1 : k = 0
    · subst hk1
      have : mxAt d y0 ys 1 = y0 := by
        unfold mxAt
        rw [show (ys.take 1).drop 1 = [] from List.drop_eq_nil_of_le (by simp; omega)]; rfl
      rw [this]; exact List.mem_of_getElem? h0
    · obtain ⟨x, hx⟩ : ∃ x, ys[k]? = some x := ⟨ys[k]'(by omega), by simp⟩
      rw [mxAt_succ d y0 (by omega) hx]
      unfold mxStep
      split
      · exact List.mem_of_getElem? hx
      · exact mxAt_mem d h0 k (by omega) (by omega)
def lwStep (d : Int) (s : Int × Int) (x : Gft) : Int × Int := if s.2 < waitG d x then (x.fId, waitG d x) else s
def lwUp (d : Int) (ys : List Gft) : Int × Int := ys.foldl (lwStep d) (0, -1)
theorem lw_mx (d : Int) {ys : List Gft} {y0 : Gft} (h0 : ys[0]? = some y0) (hw : ∀ y ∈ ys, 0 ≤ waitG d y) : ∀ k, 1 ≤ k → k ≤ ys.length → lwUp d (ys.take k) = ((mxAt d y0 ys k).fId, waitG d (mxAt d y0 ys k))
  | 0, h, _ => by omega
  | k + 1, _, hk => by
    by_cases hk1 : k = 0
    · subst hk1
      have e1 : mxAt d y0 ys 1 = y0 := by
        unfold mxAt
        rw [show (ys.take 1).drop 1 = [] from List.drop_eq_nil_of_le (by simp; omega)]; rfl
      have e2 : ys.take 1 = [y0] := by
        rw [List.take_add_one, h0]; rfl
      have := hw y0 (List.mem_of_getElem? h0)
      rw [e1, e2]
      show lwStep d (0, -1) y0 = _
      unfold lwStep
      rw [if_pos (by simp only; omega)]
    · obtain ⟨x, hx⟩ : ∃ x, ys[k]? = some x := ⟨ys[k]'(by omega), by simp⟩
      have ih := lw_mx d h0 hw k (by omega) (by omega)
      rw [mxAt_succ d y0 (by omega) hx]
      have : lwUp d (ys.take (k + 1)) = lwStep d (lwUp d (ys.take k)) x := by
        unfold lwUp
        rw [List.take_add_one, hx]; simp
      rw [this, ih]
      unfold lwStep mxStep
      by_cases h : waitG d (mxAt d y0 ys k) < waitG d x
      · rw [if_pos h, if_pos h]
      · rw [if_neg h, if_neg h]
def lwOk (xs : List Gft) (d : Int) : Bool := areG xs && inB d 0 4000 && decide (0 < (fil d xs).length)
def lwP (xs : List Gft) (d : Int) : Int × Int × Bool := if lwOk xs d then ((lwUp d (fil d xs)).1, (lwUp d (fil d xs)).2, true) else (0, 0, false)

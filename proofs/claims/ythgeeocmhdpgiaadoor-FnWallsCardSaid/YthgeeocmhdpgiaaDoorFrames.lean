/- The functions on lists of frames compute what the plain functions say. -/
import Derived.Test.YthgeeocmhdpgiaaDoorRows
import Derived.Test.YthgeeocmhdpgiaaDoorBase
namespace Go.Proofs.YthgeeocmhdpgiaaDoor
open Go Go.X Go.Proofs Go.ChangeShapes Go.WideShapes Go.ChangeAt Go.RowKit
open Go.ChangeMaps (open_string shut_string)
set_option maxHeartbeats 1000000
set_option maxRecDepth 20000
set_option linter.unusedVariables false
set_option linter.unusedSimpArgs false
def okF (f : Frm) : Bool := inB f.fId 1 99 && inB f.fWide 10 500 && inB f.fWall 1 4 && inB f.fFrom 0 4000 && inB f.fUntil 0 4000 && decide (f.fFrom ≤ f.fUntil)
def wStep (wall day : Int) (s : Int) (f : Frm) : Int := if f.fWall = wall ∧ inB day f.fFrom f.fUntil = true then IntKind.i64.wrap (s + f.fWide) else s
def wOn (xs : List Frm) (wall day : Int) : Int := xs.foldl (wStep wall day) 0
theorem wOn_take {xs : List Frm} {k : Nat} {x : Frm} (wall day : Int) (h : xs[k]? = some x) : wOn (xs.take (k + 1)) wall day = wStep wall day (wOn (xs.take k) wall day) x := by
  unfold wOn
  rw [List.take_add_one, h, List.foldl_append]; rfl
def fAt (xs : List Frm) (k : Nat) : Bool :=
  match xs[k]? with
  | some x => okF x && (k == 0 || (match xs[k - 1]? with
      | some y => decide (y.fId < x.fId)
      | none => true))
  | none => true
def wAt (xs : List Frm) (k : Nat) : Bool :=
  match xs[k]? with
  | some x => decide (wOn xs x.fWall x.fFrom ≤ 1000)
  | none => true
def fUpto (xs : List Frm) (k : Nat) : Bool := (List.range k).all (fAt xs)
def wUpto (xs : List Frm) (k : Nat) : Bool := (List.range k).all (wAt xs)
theorem fUpto_succ (xs : List Frm) (k : Nat) : fUpto xs (k + 1) = (fUpto xs k && fAt xs k) := by simp [fUpto, List.range_succ]
theorem wUpto_succ (xs : List Frm) (k : Nat) : wUpto xs (k + 1) = (wUpto xs k && wAt xs k) := by simp [wUpto, List.range_succ]
def areF (xs : List Frm) : Bool := fUpto xs xs.length && wUpto xs xs.length && decide (xs.length ≤ 12)
theorem areF_false {xs : List Frm} {k : Nat} (hk : k < xs.length) (h : fAt xs k = false ∨ wAt xs k = false) : areF xs = false := by
  simp only [areF, fUpto, wUpto, Bool.and_eq_false_iff]
  left
  rcases h with h | h
  · left
    rw [List.all_eq_false]
    exact ⟨k, by simpa using hk, by simp [h]⟩
  · right
    rw [List.all_eq_false]
    exact ⟨k, by simpa using hk, by simp [h]⟩
theorem isFrame_c (x : Frm) (w : World) : Calls Tryd.prog 31 #[.agg (encFrm x).toArray] w fun e w' => e = .returned (.bool (okF x)) ∧ E0 w w' := by
  refine enterK Non 33 Tryd.func31 rfl rfl rfl fun K hK => ?_
  repeat (any_goals (
    conv => whnf
    first
    | ((with_reducible refine callF (g := 48) ?_ ?_); kernel_rfl; refine ⟨_, within_c _ _ _ _, ?_⟩; intro w4 e4; have z4 := cutLe e4)
    | ((with_reducible refine callF (g := 37) ?_ ?_); kernel_rfl; refine ⟨_, isWidth_c _ _, ?_⟩; intro w4 e4; have z4 := cutLe e4)
    | ((with_reducible refine callF (g := 44) ?_ ?_); kernel_rfl; refine ⟨_, isHungWall_c _ _, ?_⟩; intro w4 e4; have z4 := cutLe e4)
    | ((with_reducible refine callF (g := 51) ?_ ?_); kernel_rfl; refine ⟨_, isDay_c _ _, ?_⟩; intro w4 e4; have z4 := cutLe e4)
    | ((with_reducible refine BIF.dec ?_ ?_) <;> intro _)
    | ((with_reducible refine BIF.s ?_ ?_) <;> intro _)
    | (with_reducible refine NEXTK.normal ?_)
    | (with_reducible refine NEXTK.ret ?_)
    | (with_reducible refine NEXTK.exit ?_)
    | (with_reducible refine SEQ.plain ?_)
    | (with_reducible refine hK _ _ ?_)
    | ((with_reducible refine RUNL.agg (fun _ => ?_) ?_); (focus kernel_rfl))
    | (with_reducible refine RUNL.run ?_)
    | ((with_reducible refine AR.ok ?_ ?_); exact ⟨by first | omega | (dsimp only; omega), by first | omega | (dsimp only; omega)⟩)
    | (with_reducible refine AR.wr ?_)
    | ((with_reducible intro w3 e3); try have z3 := cutLe e3)
    | ((with_reducible intro h3); have h4 := Nat.le_of_lt h3; clear h4)))
  all_goals
    intro hx
    refine ⟨?_, hx⟩
    simp_all [okF, resV]
theorem l27One_c (x : Frm) (w : World) : Calls Tryd.prog 29 #[.agg (encFrm x).toArray] w fun e w' => e = .returned (.bool (okF x)) ∧ E0 w w' := by
  refine enterK Non 33 Tryd.func29 rfl rfl rfl fun K hK => ?_
  repeat (any_goals (
    conv => whnf
    first
    | ((with_reducible refine callF (g := 64) ?_ ?_); kernel_rfl; refine ⟨_, l1In_c _ _ _ _, ?_⟩; intro w4 e4; have z4 := cutLe e4)
    | ((with_reducible refine callF (g := 41) ?_ ?_); kernel_rfl; refine ⟨_, l27Wide_c _ _, ?_⟩; intro w4 e4; have z4 := cutLe e4)
    | ((with_reducible refine callF (g := 62) ?_ ?_); kernel_rfl; refine ⟨_, l27Wall_c _ _, ?_⟩; intro w4 e4; have z4 := cutLe e4)
    | ((with_reducible refine callF (g := 63) ?_ ?_); kernel_rfl; refine ⟨_, l2Day_c _ _, ?_⟩; intro w4 e4; have z4 := cutLe e4)
    | ((with_reducible refine BIF.dec ?_ ?_) <;> intro _)
    | ((with_reducible refine BIF.s ?_ ?_) <;> intro _)
    | (with_reducible refine NEXTK.normal ?_)
    | (with_reducible refine NEXTK.ret ?_)
    | (with_reducible refine NEXTK.exit ?_)
    | (with_reducible refine SEQ.plain ?_)
    | (with_reducible refine hK _ _ ?_)
    | ((with_reducible refine RUNL.agg (fun _ => ?_) ?_); (focus kernel_rfl))
    | (with_reducible refine RUNL.run ?_)
    | ((with_reducible refine AR.ok ?_ ?_); exact ⟨by first | omega | (dsimp only; omega), by first | omega | (dsimp only; omega)⟩)
    | (with_reducible refine AR.wr ?_)
    | ((with_reducible intro w3 e3); try have z3 := cutLe e3)
    | ((with_reducible intro h3); have h4 := Nat.le_of_lt h3; clear h4)))
  all_goals
    intro hx
    refine ⟨?_, hx⟩
    simp_all [okF, resV]
theorem hangs_c (x : Frm) (day : Int) (w : World) : Calls Tryd.prog 54 #[.agg (encFrm x).toArray, .int .i64 day] w fun e w' => e = .returned (.bool (inB day x.fFrom x.fUntil)) ∧ E0 w w' := by
  refine enterK Non 11 Tryd.func54 rfl rfl rfl fun K hK => ?_
  repeat (any_goals (
    conv => whnf
    first
    | ((with_reducible refine callF (g := 48) ?_ ?_); kernel_rfl; refine ⟨_, within_c _ _ _ _, ?_⟩; intro w4 e4; have z4 := cutLe e4)
    | ((with_reducible refine BIF.dec ?_ ?_) <;> intro _)
    | ((with_reducible refine BIF.s ?_ ?_) <;> intro _)
    | (with_reducible refine NEXTK.normal ?_)
    | (with_reducible refine NEXTK.ret ?_)
    | (with_reducible refine NEXTK.exit ?_)
    | (with_reducible refine SEQ.plain ?_)
    | (with_reducible refine hK _ _ ?_)
    | ((with_reducible refine RUNL.agg (fun _ => ?_) ?_); (focus kernel_rfl))
    | (with_reducible refine RUNL.run ?_)
    | ((with_reducible refine AR.ok ?_ ?_); exact ⟨by first | omega | (dsimp only; omega), by first | omega | (dsimp only; omega)⟩)
    | (with_reducible refine AR.wr ?_)
    | ((with_reducible intro w3 e3); try have z3 := cutLe e3)
    | ((with_reducible intro h3); have h4 := Nat.le_of_lt h3; clear h4)))
  intro hx
  exact ⟨rfl, hx⟩
theorem widthOn_c (a : Option Addr) (n c : Nat) (xs : List Frm) (wall day : Int) (w : World) (hr : Row w a 5 (xs.map encFrm)) (hn : xs.length = n) (hm : n ≤ 4611686018427387904) :
    Calls Tryd.prog 68 #[.slice a n c, .int .i64 wall, .int .i64 day] w fun e w' => e = .returned (.int .i64 (wOn xs wall day)) ∧ E0 w w' := by
  refine enterK Non 31 Tryd.func68 rfl rfl rfl fun K hK => ?_
  conv => whnf
  repeat (first | ((with_reducible refine NEXTK.normal ?_); conv => whnf) | ((with_reducible refine NEXTK.exit ?_); conv => whnf) | ((with_reducible refine NEXTK.ret ?_); conv => whnf) | ((with_reducible refine SEQ.plain ?_); conv => whnf) | ((with_reducible refine AR.ok ?_ ?_); exact ⟨by omega, by omega⟩; conv => whnf))
  refine LOOP.mk (Nat × Int) (fun g => [(12, .v (.int .i64 g.1)), (7, .v (.int .i64 g.2))]) (fun g _ => g.1 ≤ n ∧ g.2 = wOn (xs.take g.1) wall day) (fun g => n - g.1) (0, 0) rfl ⟨rfl, rfl, trivial⟩ ⟨Nat.zero_le _, by simp [wOn]⟩ ?_
  rintro ⟨j, s⟩ wr - ⟨hj, hs'⟩
  simp only at hj hs'
  conv => whnf
  repeat (first | ((with_reducible refine NEXTK.normal ?_); conv => whnf) | ((with_reducible refine NEXTK.exit ?_); conv => whnf) | ((with_reducible refine NEXTK.ret ?_); conv => whnf) | ((with_reducible refine SEQ.plain ?_); conv => whnf) | ((with_reducible refine AR.ok ?_ ?_); exact ⟨by omega, by omega⟩; conv => whnf))
  refine BIF.dec (fun hlt => ?_) (fun hlt => ?_)
  · have hlt' : j < xs.length := by omega
    have his := hr.isSome (by simp; omega)
    obtain ⟨x, hx⟩ : ∃ x, xs[j]? = some x := ⟨xs[j]'(by omega), by simp⟩
    have ht := wOn_take wall day hx
    repeat (any_goals (
      conv => whnf
      first
      | ((with_reducible refine OBL.mk ?_ (fun _ => ?_)); exact ⟨by first | omega | (dsimp only; omega), by first | omega | (dsimp only; omega), his⟩)
      | ((with_reducible refine ELD.at (j) hr ?_ ?_ ?_ (fun x' hx' => ?_)); exact mAddr_Non _; (first | rfl | omega); exact hlt'; obtain rfl : x = x' := by (rw [hx] at hx'; exact Option.some.inj hx'))
      | ((with_reducible refine callF (g := 54) ?_ ?_); kernel_rfl; refine ⟨_, hangs_c _ _ _, ?_⟩; intro w4 e4; have z4 := cutLe e4)
      | ((with_reducible refine BIF.dec ?_ ?_) <;> intro _)
      | ((with_reducible refine BIF.s ?_ ?_) <;> intro _)
      | (with_reducible refine NEXTK.normal ?_)
      | (with_reducible refine NEXTK.ret ?_)
      | (with_reducible refine NEXTK.exit ?_)
      | (with_reducible refine SEQ.plain ?_)
      | (with_reducible refine hK _ _ ?_)
      | ((with_reducible refine RUNL.agg (fun _ => ?_) ?_); (focus kernel_rfl))
      | (with_reducible refine RUNL.run ?_)
      | ((with_reducible refine AR.ok ?_ ?_); exact ⟨by first | omega | (dsimp only; omega), by first | omega | (dsimp only; omega)⟩)
      | (with_reducible refine AR.wr ?_)
      | ((with_reducible intro w3 e3); try have z3 := cutLe e3)
      | ((with_reducible intro h3); have h4 := Nat.le_of_lt h3; clear h4)))
    all_goals
      refine ⟨(j + 1, _), rfl, ⟨rfl, rfl, trivial⟩, rfl, rfl, ⟨by simp; omega, ?_⟩, by simp; omega⟩
      simp only [ht, ← hs', wStep]
      by_cases hc : x.fWall = wall ∧ inB day x.fFrom x.fUntil = true
      · rw [if_pos hc]; try (first | rfl | (exfalso; simp_all; done))
      · rw [if_neg hc]; try (first | rfl | (exfalso; simp_all; done))
  · have hkj : j = xs.length := by omega
    repeat (any_goals (
      conv => whnf
      first
      | ((with_reducible refine BIF.dec ?_ ?_) <;> intro _)
      | ((with_reducible refine BIF.s ?_ ?_) <;> intro _)
      | (with_reducible refine NEXTK.normal ?_)
      | (with_reducible refine NEXTK.ret ?_)
      | (with_reducible refine NEXTK.exit ?_)
      | (with_reducible refine SEQ.plain ?_)
      | (with_reducible refine hK _ _ ?_)
      | ((with_reducible refine RUNL.agg (fun _ => ?_) ?_); (focus kernel_rfl))
      | (with_reducible refine RUNL.run ?_)
      | ((with_reducible refine AR.ok ?_ ?_); exact ⟨by first | omega | (dsimp only; omega), by first | omega | (dsimp only; omega)⟩)
      | (with_reducible refine AR.wr ?_)
      | ((with_reducible intro w3 e3); try have z3 := cutLe e3)
      | ((with_reducible intro h3); have h4 := Nat.le_of_lt h3; clear h4)))
    intro hx
    refine ⟨?_, hx⟩
    rw [hkj, List.take_length] at hs'
    rw [hs']; rfl
theorem l27Width_c (a : Option Addr) (n c : Nat) (xs : List Frm) (wall day : Int) (w : World) (hr : Row w a 5 (xs.map encFrm)) (hn : xs.length = n) (hm : n ≤ 4611686018427387904) :
    Calls Tryd.prog 69 #[.slice a n c, .int .i64 wall, .int .i64 day] w fun e w' => e = .returned (.int .i64 (wOn xs wall day)) ∧ E0 w w' := by
  refine enterK Non 44 Tryd.func69 rfl rfl rfl fun K hK => ?_
  conv => whnf
  repeat (first | ((with_reducible refine NEXTK.normal ?_); conv => whnf) | ((with_reducible refine NEXTK.exit ?_); conv => whnf) | ((with_reducible refine NEXTK.ret ?_); conv => whnf) | ((with_reducible refine SEQ.plain ?_); conv => whnf) | ((with_reducible refine AR.ok ?_ ?_); exact ⟨by omega, by omega⟩; conv => whnf))
  refine LOOP.mk (Nat × Int) (fun g => [(8, .v (.int .i64 g.1)), (7, .v (.int .i64 g.2))]) (fun g _ => g.1 ≤ n ∧ g.2 = wOn (xs.take g.1) wall day) (fun g => n - g.1) (0, 0) rfl ⟨rfl, rfl, trivial⟩ ⟨Nat.zero_le _, by simp [wOn]⟩ ?_
  rintro ⟨j, s⟩ wr - ⟨hj, hs'⟩
  simp only at hj hs'
  conv => whnf
  repeat (first | ((with_reducible refine NEXTK.normal ?_); conv => whnf) | ((with_reducible refine NEXTK.exit ?_); conv => whnf) | ((with_reducible refine NEXTK.ret ?_); conv => whnf) | ((with_reducible refine SEQ.plain ?_); conv => whnf) | ((with_reducible refine AR.ok ?_ ?_); exact ⟨by omega, by omega⟩; conv => whnf))
  refine BIF.dec (fun hlt => ?_) (fun hlt => ?_)
  · have hlt' : j < xs.length := by omega
    have his := hr.isSome (by simp; omega)
    obtain ⟨x, hx⟩ : ∃ x, xs[j]? = some x := ⟨xs[j]'(by omega), by simp⟩
    have ht := wOn_take wall day hx
    repeat (any_goals (
      conv => whnf
      first
      | ((with_reducible refine OBL.mk ?_ (fun _ => ?_)); exact ⟨by first | omega | (dsimp only; omega), by first | omega | (dsimp only; omega), his⟩)
      | ((with_reducible refine ELD.at (j) hr ?_ ?_ ?_ (fun x' hx' => ?_)); exact mAddr_Non _; (first | rfl | omega); exact hlt'; obtain rfl : x = x' := by (rw [hx] at hx'; exact Option.some.inj hx'))
      | ((with_reducible refine DRAW.quiet ?_ ?_ ?_); kernel_rfl; kernel_rfl)
      | ((with_reducible refine callQ (g := 64) ?_ ?_); kernel_rfl; refine ⟨_, fun w' _ => l1In_c _ _ _ w', ?_⟩)
      | ((with_reducible refine BIF.dec ?_ ?_) <;> intro _)
      | ((with_reducible refine BIF.s ?_ ?_) <;> intro _)
      | (with_reducible refine NEXTK.normal ?_)
      | (with_reducible refine NEXTK.ret ?_)
      | (with_reducible refine NEXTK.exit ?_)
      | (with_reducible refine SEQ.plain ?_)
      | (with_reducible refine hK _ _ ?_)
      | ((with_reducible refine RUNL.agg (fun _ => ?_) ?_); (focus kernel_rfl))
      | (with_reducible refine RUNL.run ?_)
      | ((with_reducible refine AR.ok ?_ ?_); exact ⟨by first | omega | (dsimp only; omega), by first | omega | (dsimp only; omega)⟩)
      | (with_reducible refine AR.wr ?_)
      | ((with_reducible intro w3 e3); try have z3 := cutLe e3)
      | ((with_reducible intro h3); have h4 := Nat.le_of_lt h3; clear h4)))
    all_goals
      refine ⟨(j + 1, _), rfl, ⟨rfl, rfl, trivial⟩, rfl, rfl, ⟨by simp; omega, ?_⟩, by simp; omega⟩
      simp only [ht, ← hs', wStep]
      by_cases hc : x.fWall = wall ∧ inB day x.fFrom x.fUntil = true
      · rw [if_pos hc]; try (first | rfl | (exfalso; simp_all; done))
      · rw [if_neg hc]; try (first | rfl | (exfalso; simp_all; done))
  · have hkj : j = xs.length := by omega
    repeat (any_goals (
      conv => whnf
      first
      | ((with_reducible refine BIF.dec ?_ ?_) <;> intro _)
      | ((with_reducible refine BIF.s ?_ ?_) <;> intro _)
      | (with_reducible refine NEXTK.normal ?_)
      | (with_reducible refine NEXTK.ret ?_)
      | (with_reducible refine NEXTK.exit ?_)
      | (with_reducible refine SEQ.plain ?_)
      | (with_reducible refine hK _ _ ?_)
      | ((with_reducible refine RUNL.agg (fun _ => ?_) ?_); (focus kernel_rfl))
      | (with_reducible refine RUNL.run ?_)
      | ((with_reducible refine AR.ok ?_ ?_); exact ⟨by first | omega | (dsimp only; omega), by first | omega | (dsimp only; omega)⟩)
      | (with_reducible refine AR.wr ?_)
      | ((with_reducible intro w3 e3); try have z3 := cutLe e3)
      | ((with_reducible intro h3); have h4 := Nat.le_of_lt h3; clear h4)))
    intro hx
    refine ⟨?_, hx⟩
    rw [hkj, List.take_length] at hs'
    rw [hs']; rfl
theorem AreFrames_c (a : Option Addr) (n c : Nat) (xs : List Frm) (w : World) (hr : Row w a 5 (xs.map encFrm)) (hn : xs.length = n) (hm : n ≤ 4611686018427387904) :
    Calls Tryd.prog 36 #[.slice a n c] w fun e w' => e = .returned (.bool (areF xs)) ∧ E0 w w' := by
  refine enterK Non 43 Tryd.func36 rfl rfl rfl fun K hK => ?_
  conv => whnf
  repeat (first | ((with_reducible refine NEXTK.normal ?_); conv => whnf) | ((with_reducible refine NEXTK.exit ?_); conv => whnf) | ((with_reducible refine NEXTK.ret ?_); conv => whnf) | ((with_reducible refine SEQ.plain ?_); conv => whnf) | ((with_reducible refine AR.ok ?_ ?_); exact ⟨by omega, by omega⟩; conv => whnf))
  refine LOOP.mk Nat (fun k => [(7, .v (.int .i64 k))]) (fun k _ => k ≤ n ∧ fUpto xs k = true ∧ wUpto xs k = true) (fun k => n - k) 0 rfl ⟨rfl, trivial⟩ ⟨Nat.zero_le _, rfl, rfl⟩ ?_
  rintro k wr ew ⟨hk, hok, hwk⟩
  conv => whnf
  repeat (first | ((with_reducible refine NEXTK.normal ?_); conv => whnf) | ((with_reducible refine NEXTK.exit ?_); conv => whnf) | ((with_reducible refine NEXTK.ret ?_); conv => whnf) | ((with_reducible refine SEQ.plain ?_); conv => whnf) | ((with_reducible refine AR.ok ?_ ?_); exact ⟨by omega, by omega⟩; conv => whnf))
  refine BIF.dec (fun hlt => ?_) (fun hlt => ?_)
  · have hlt' : k < xs.length := by omega
    have his := hr.isSome (by simp; omega)
    obtain ⟨x, hx⟩ : ∃ x, xs[k]? = some x := ⟨xs[k]'(by omega), by simp⟩
    repeat (any_goals (
      conv => whnf
      first
      | ((with_reducible refine OBL.mk ?_ (fun _ => ?_)); exact ⟨by first | omega | (dsimp only; omega), by first | omega | (dsimp only; omega), his⟩)
      | ((with_reducible refine ELD.at (k) hr ?_ ?_ ?_ (fun x' hx' => ?_)); exact mAddr_Non _; (first | rfl | omega); exact hlt'; obtain rfl : x = x' := by (rw [hx] at hx'; exact Option.some.inj hx'))
      | ((with_reducible refine DRAW.quiet ?_ ?_ ?_); kernel_rfl; kernel_rfl)
      | ((with_reducible refine callQ (g := 31) ?_ ?_); kernel_rfl; refine ⟨_, fun w' _ => isFrame_c x w', ?_⟩)
      | ((with_reducible refine callQX (g := 68) ?_ ?_); kernel_rfl; refine ⟨_, fun w' _ x0 => widthOn_c _ _ _ xs _ _ w' (hr.e0 x0) hn hm, ?_⟩)
      | ((with_reducible refine ELD.at (k - 1) hr ?_ ?_ ?_ (fun y hy => ?_)); exact mAddr_Non _; omega; omega)
      | ((with_reducible refine BIF.dec ?_ ?_) <;> intro _)
      | ((with_reducible refine BIF.s ?_ ?_) <;> intro _)
      | (with_reducible refine NEXTK.normal ?_)
      | (with_reducible refine NEXTK.ret ?_)
      | (with_reducible refine NEXTK.exit ?_)
      | (with_reducible refine SEQ.plain ?_)
      | (with_reducible refine hK _ _ ?_)
      | ((with_reducible refine RUNL.agg (fun _ => ?_) ?_); (focus kernel_rfl))
      | (with_reducible refine RUNL.run ?_)
      | ((with_reducible refine AR.ok ?_ ?_); exact ⟨by first | omega | (dsimp only; omega), by first | omega | (dsimp only; omega)⟩)
      | (with_reducible refine AR.wr ?_)
      | ((with_reducible intro w3 e3); try have z3 := cutLe e3)
      | ((with_reducible intro h3); have h4 := Nat.le_of_lt h3; clear h4)))
    all_goals first
      | (intro hx'
         refine ⟨?_, hx'⟩
         rw [areF_false hlt' (by first | (left; simp_all [fAt]; done) | (left; simp_all [fAt]; omega) | (right; simp_all [wAt]; done) | (right; simp_all [wAt]; omega))]; rfl)
      | (refine ⟨k + 1, rfl, ⟨rfl, trivial⟩, rfl, rfl, ⟨by omega, ?_, ?_⟩, by omega⟩
         · rw [fUpto_succ, hok]
           simp_all [fAt]; try omega
         · rw [wUpto_succ, hwk]
           simp_all [wAt]; try omega)
  · have hkn : k = xs.length := by omega
    repeat (any_goals (
      conv => whnf
      first
      | ((with_reducible refine BIF.dec ?_ ?_) <;> intro _)
      | ((with_reducible refine BIF.s ?_ ?_) <;> intro _)
      | (with_reducible refine NEXTK.normal ?_)
      | (with_reducible refine NEXTK.ret ?_)
      | (with_reducible refine NEXTK.exit ?_)
      | (with_reducible refine SEQ.plain ?_)
      | (with_reducible refine hK _ _ ?_)
      | ((with_reducible refine RUNL.agg (fun _ => ?_) ?_); (focus kernel_rfl))
      | (with_reducible refine RUNL.run ?_)
      | ((with_reducible refine AR.ok ?_ ?_); exact ⟨by first | omega | (dsimp only; omega), by first | omega | (dsimp only; omega)⟩)
      | (with_reducible refine AR.wr ?_)
      | ((with_reducible intro w3 e3); try have z3 := cutLe e3)
      | ((with_reducible intro h3); have h4 := Nat.le_of_lt h3; clear h4)))
    intro hx'
    refine ⟨?_, hx'⟩
    rw [areF, ← hkn, hok, hwk]
    simp [resV]; omega
theorem l27Good_c (a : Option Addr) (n c : Nat) (xs : List Frm) (w : World) (hr : Row w a 5 (xs.map encFrm)) (hn : xs.length = n) (hm : n ≤ 4611686018427387904) :
    Calls Tryd.prog 40 #[.slice a n c] w fun e w' => e = .returned (.bool (areF xs)) ∧ E0 w w' := by
  refine enterK Non 57 Tryd.func40 rfl rfl rfl fun K hK => ?_
  conv => whnf
  repeat (first | ((with_reducible refine NEXTK.normal ?_); conv => whnf) | ((with_reducible refine NEXTK.exit ?_); conv => whnf) | ((with_reducible refine NEXTK.ret ?_); conv => whnf) | ((with_reducible refine SEQ.plain ?_); conv => whnf) | ((with_reducible refine AR.ok ?_ ?_); exact ⟨by omega, by omega⟩; conv => whnf))
  refine BIF.dec (fun hbig => ?_) (fun hbig => ?_)
  · repeat (any_goals (
      conv => whnf
      first
      | ((with_reducible refine BIF.dec ?_ ?_) <;> intro _)
      | ((with_reducible refine BIF.s ?_ ?_) <;> intro _)
      | (with_reducible refine NEXTK.normal ?_)
      | (with_reducible refine NEXTK.ret ?_)
      | (with_reducible refine NEXTK.exit ?_)
      | (with_reducible refine SEQ.plain ?_)
      | (with_reducible refine hK _ _ ?_)
      | ((with_reducible refine RUNL.agg (fun _ => ?_) ?_); (focus kernel_rfl))
      | (with_reducible refine RUNL.run ?_)
      | ((with_reducible refine AR.ok ?_ ?_); exact ⟨by first | omega | (dsimp only; omega), by first | omega | (dsimp only; omega)⟩)
      | (with_reducible refine AR.wr ?_)
      | ((with_reducible intro w3 e3); try have z3 := cutLe e3)
      | ((with_reducible intro h3); have h4 := Nat.le_of_lt h3; clear h4)))
    intro hx'
    refine ⟨?_, hx'⟩
    have : ¬ xs.length ≤ 12 := by omega
    simp [resV, areF, this]
  · conv => whnf
    repeat (first | ((with_reducible refine NEXTK.normal ?_); conv => whnf) | ((with_reducible refine NEXTK.exit ?_); conv => whnf) | ((with_reducible refine NEXTK.ret ?_); conv => whnf) | ((with_reducible refine SEQ.plain ?_); conv => whnf) | ((with_reducible refine AR.ok ?_ ?_); exact ⟨by omega, by omega⟩; conv => whnf))
    refine LOOP.mk Nat (fun k => [(3, .v (.int .i64 k))]) (fun k _ => k ≤ n ∧ fUpto xs k = true) (fun k => n - k) 0 rfl ⟨rfl, trivial⟩ ⟨Nat.zero_le _, rfl⟩ ?_
    rintro k wr ew ⟨hk, hok⟩
    conv => whnf
    repeat (first | ((with_reducible refine NEXTK.normal ?_); conv => whnf) | ((with_reducible refine NEXTK.exit ?_); conv => whnf) | ((with_reducible refine NEXTK.ret ?_); conv => whnf) | ((with_reducible refine SEQ.plain ?_); conv => whnf) | ((with_reducible refine AR.ok ?_ ?_); exact ⟨by omega, by omega⟩; conv => whnf))
    refine BIF.dec (fun hlt => ?_) (fun hlt => ?_)
    · have hlt' : k < xs.length := by omega
      have his := hr.isSome (by simp; omega)
      obtain ⟨x, hx⟩ : ∃ x, xs[k]? = some x := ⟨xs[k]'(by omega), by simp⟩
      repeat (any_goals (
        conv => whnf
        first
        | ((with_reducible refine OBL.mk ?_ (fun _ => ?_)); exact ⟨by first | omega | (dsimp only; omega), by first | omega | (dsimp only; omega), his⟩)
        | ((with_reducible refine ELD.at (k) hr ?_ ?_ ?_ (fun x' hx' => ?_)); exact mAddr_Non _; (first | rfl | omega); exact hlt'; obtain rfl : x = x' := by (rw [hx] at hx'; exact Option.some.inj hx'))
        | ((with_reducible refine DRAW.quiet ?_ ?_ ?_); kernel_rfl; kernel_rfl)
        | ((with_reducible refine callQ (g := 29) ?_ ?_); kernel_rfl; refine ⟨_, fun w' _ => l27One_c x w', ?_⟩)
        | ((with_reducible refine ELD.at (k - 1) hr ?_ ?_ ?_ (fun y hy => ?_)); exact mAddr_Non _; omega; omega)
        | ((with_reducible refine BIF.dec ?_ ?_) <;> intro _)
        | ((with_reducible refine BIF.s ?_ ?_) <;> intro _)
        | (with_reducible refine NEXTK.normal ?_)
        | (with_reducible refine NEXTK.ret ?_)
        | (with_reducible refine NEXTK.exit ?_)
        | (with_reducible refine SEQ.plain ?_)
        | (with_reducible refine hK _ _ ?_)
        | ((with_reducible refine RUNL.agg (fun _ => ?_) ?_); (focus kernel_rfl))
        | (with_reducible refine RUNL.run ?_)
        | ((with_reducible refine AR.ok ?_ ?_); exact ⟨by first | omega | (dsimp only; omega), by first | omega | (dsimp only; omega)⟩)
        | (with_reducible refine AR.wr ?_)
        | ((with_reducible intro w3 e3); try have z3 := cutLe e3)
        | ((with_reducible intro h3); have h4 := Nat.le_of_lt h3; clear h4)))
      all_goals first
        | (intro hx'
           refine ⟨?_, hx'⟩
           rw [areF_false hlt' (by first | (left; simp_all [fAt]; done) | (left; simp_all [fAt]; omega))]; rfl)
        | (refine ⟨k + 1, rfl, ⟨rfl, trivial⟩, rfl, rfl, ⟨by omega, ?_⟩, by omega⟩
           rw [fUpto_succ, hok]
           simp_all [fAt]; try omega)
    · have hkn : k = xs.length := by omega
      conv => whnf
      repeat (first | ((with_reducible refine NEXTK.normal ?_); conv => whnf) | ((with_reducible refine NEXTK.exit ?_); conv => whnf) | ((with_reducible refine NEXTK.ret ?_); conv => whnf) | ((with_reducible refine SEQ.plain ?_); conv => whnf) | ((with_reducible refine AR.ok ?_ ?_); exact ⟨by omega, by omega⟩; conv => whnf))
      refine LOOP.mk Nat (fun k => [(4, .v (.int .i64 k))]) (fun k _ => k ≤ n ∧ wUpto xs k = true) (fun k => n - k) 0 rfl ⟨rfl, trivial⟩ ⟨Nat.zero_le _, rfl⟩ ?_
      rintro q wq eq ⟨hq, hwq⟩
      conv => whnf
      repeat (first | ((with_reducible refine NEXTK.normal ?_); conv => whnf) | ((with_reducible refine NEXTK.exit ?_); conv => whnf) | ((with_reducible refine NEXTK.ret ?_); conv => whnf) | ((with_reducible refine SEQ.plain ?_); conv => whnf) | ((with_reducible refine AR.ok ?_ ?_); exact ⟨by omega, by omega⟩; conv => whnf))
      refine BIF.dec (fun hlt => ?_) (fun hlt => ?_)
      · have hlt' : q < xs.length := by omega
        have his := hr.isSome (by simp; omega)
        obtain ⟨x, hx⟩ : ∃ x, xs[q]? = some x := ⟨xs[q]'(by omega), by simp⟩
        repeat (any_goals (
          conv => whnf
          first
          | ((with_reducible refine OBL.mk ?_ (fun _ => ?_)); exact ⟨by first | omega | (dsimp only; omega), by first | omega | (dsimp only; omega), his⟩)
          | ((with_reducible refine ELD.at (q) hr ?_ ?_ ?_ (fun x' hx' => ?_)); exact mAddr_Non _; (first | rfl | omega); exact hlt'; obtain rfl : x = x' := by (rw [hx] at hx'; exact Option.some.inj hx'))
          | ((with_reducible refine DRAW.quiet ?_ ?_ ?_); kernel_rfl; kernel_rfl)
          | ((with_reducible refine callQX (g := 69) ?_ ?_); kernel_rfl; refine ⟨_, fun w' _ x0 => l27Width_c _ _ _ xs _ _ w' (hr.e0 x0) hn hm, ?_⟩)
          | ((with_reducible refine BIF.dec ?_ ?_) <;> intro _)
          | ((with_reducible refine BIF.s ?_ ?_) <;> intro _)
          | (with_reducible refine NEXTK.normal ?_)
          | (with_reducible refine NEXTK.ret ?_)
          | (with_reducible refine NEXTK.exit ?_)
          | (with_reducible refine SEQ.plain ?_)
          | (with_reducible refine hK _ _ ?_)
          | ((with_reducible refine RUNL.agg (fun _ => ?_) ?_); (focus kernel_rfl))
          | (with_reducible refine RUNL.run ?_)
          | ((with_reducible refine AR.ok ?_ ?_); exact ⟨by first | omega | (dsimp only; omega), by first | omega | (dsimp only; omega)⟩)
          | (with_reducible refine AR.wr ?_)
          | ((with_reducible intro w3 e3); try have z3 := cutLe e3)
          | ((with_reducible intro h3); have h4 := Nat.le_of_lt h3; clear h4)))
        all_goals first
          | (intro hx'
             refine ⟨?_, hx'⟩
             rw [areF_false hlt' (by first | (right; simp_all [wAt]; done) | (right; simp_all [wAt]; omega))]; rfl)
          | (refine ⟨q + 1, rfl, ⟨rfl, trivial⟩, rfl, rfl, ⟨by omega, ?_⟩, by omega⟩
             rw [wUpto_succ, hwq]
             simp_all [wAt]; try omega)
      · have hqn : q = xs.length := by omega
        repeat (any_goals (
          conv => whnf
          first
          | ((with_reducible refine BIF.dec ?_ ?_) <;> intro _)
          | ((with_reducible refine BIF.s ?_ ?_) <;> intro _)
          | (with_reducible refine NEXTK.normal ?_)
          | (with_reducible refine NEXTK.ret ?_)
          | (with_reducible refine NEXTK.exit ?_)
          | (with_reducible refine SEQ.plain ?_)
          | (with_reducible refine hK _ _ ?_)
          | ((with_reducible refine RUNL.agg (fun _ => ?_) ?_); (focus kernel_rfl))
          | (with_reducible refine RUNL.run ?_)
          | ((with_reducible refine AR.ok ?_ ?_); exact ⟨by first | omega | (dsimp only; omega), by first | omega | (dsimp only; omega)⟩)
          | (with_reducible refine AR.wr ?_)
          | ((with_reducible intro w3 e3); try have z3 := cutLe e3)
          | ((with_reducible intro h3); have h4 := Nat.le_of_lt h3; clear h4)))
        intro hx'
        refine ⟨?_, hx'⟩
        rw [areF, ← hqn, hwq, hqn, ← hkn, hok]
        simp [resV]; omega

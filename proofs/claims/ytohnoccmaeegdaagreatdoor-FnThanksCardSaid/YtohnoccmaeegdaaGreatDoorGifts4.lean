/- TakeGift. -/
import Derived.Test.YtohnoccmaeegdaaGreatDoorRows
import Derived.Test.YtohnoccmaeegdaaGreatDoorGifts3
namespace Go.Proofs.YtohnoccmaeegdaaGreatDoor
open Go Go.X Go.Proofs Go.ChangeShapes Go.WideShapes Go.ChangeAt Go.RowKit
open Go.ChangeMaps (open_string shut_string)
set_option maxHeartbeats 1000000
set_option maxRecDepth 20000
set_option linter.unusedVariables false
set_option linter.unusedSimpArgs false
theorem CloneGft_c (a : Option Addr) (n c : Nat) (xs : List Gft) (w : World) (hr : Row w a 5 (xs.map encGft)) (hn : xs.length = n) (hm : n ≤ 1048577) :
    Calls Tryz.prog 29 #[.slice a n c] w fun e w' => ∃ r, e = .returned r ∧ E0 w w' ∧ Own w' w.heap.size 41 5 r (xs.map encGft) := by
  refine enterK Non 8 Tryz.func29 rfl rfl rfl fun K hK => ?_
  repeat (any_goals (
    conv => whnf
    first
    | ((with_reducible refine BIF.dec ?_ ?_) <;> intro _)
    | ((with_reducible refine BIF.s ?_ ?_) <;> intro _)
    | (with_reducible refine NEXTK.normal ?_)
    | (with_reducible refine NEXTK.ret ?_)
    | (with_reducible refine NEXTK.exit ?_)
    | (with_reducible refine SEQ.plain ?_)
    | (with_reducible refine hK _ _ ?_)
    | ((with_reducible refine RUNL.agg (fun _ => ?_) ?_); (focus kernel_rfl))
    | (with_reducible refine RUNL.run ?_)
    | ((with_reducible refine AR.ok ?_ ?_); exact ⟨by first | omega | (dsimp only; omega), by first | omega | (dsimp only; omega)⟩)
    | (with_reducible refine AR.wr ?_)
    | ((with_reducible intro w3 e3); try have z3 := cutLe e3)
    | ((with_reducible intro h3); have h4 := Nat.le_of_lt h3; clear h4)))
  · intro hx
    rename_i h
    have : xs = [] := by
      cases a with
      | none =>
        cases xs with
        | nil => rfl
        | cons x r => exact absurd (hr.isSome (by simp)) (by simp)
      | some p => simp at h
    subst this
    exact ⟨_, rfl, hx, Own.nil _ _ _ _⟩
  · refine bsS elemGft [] rfl rfl (by simp) (by omega) (fun w1 e1 o1 => ?_)
    conv => whnf
    repeat (first | ((with_reducible refine NEXTK.normal ?_); conv => whnf) | ((with_reducible refine NEXTK.exit ?_); conv => whnf) | ((with_reducible refine NEXTK.ret ?_); conv => whnf) | ((with_reducible refine SEQ.plain ?_); conv => whnf) | ((with_reducible refine AR.ok ?_ ?_); exact ⟨by omega, by omega⟩; conv => whnf))
    refine apS elemGft o1 (hr.e0 e1) (by simpa using hn) (by intro l hl; obtain ⟨x, -, rfl⟩ := List.mem_map.1 hl; rfl) ⟨by simp; omega, by simp; omega⟩ ⟨Nat.le_refl _, e1.size⟩ trivial (fun v2 w2 x2 o2 => ?_)
    replace o2 : Own w2 w.heap.size 41 5 v2 (xs.map encGft) := by simpa using o2
    obtain ⟨b2, d2, rfl, q2, p2⟩ := o2.rowx
    repeat (any_goals (
      conv => whnf
      first
      | ((with_reducible refine BIF.dec ?_ ?_) <;> intro _)
      | ((with_reducible refine BIF.s ?_ ?_) <;> intro _)
      | (with_reducible refine NEXTK.normal ?_)
      | (with_reducible refine NEXTK.ret ?_)
      | (with_reducible refine NEXTK.exit ?_)
      | (with_reducible refine SEQ.plain ?_)
      | (with_reducible refine hK _ _ ?_)
      | ((with_reducible refine RUNL.agg (fun _ => ?_) ?_); (focus kernel_rfl))
      | (with_reducible refine RUNL.run ?_)
      | ((with_reducible refine AR.ok ?_ ?_); exact ⟨by first | omega | (dsimp only; omega), by first | omega | (dsimp only; omega)⟩)
      | (with_reducible refine AR.wr ?_)
      | ((with_reducible intro w3 e3); try have z3 := cutLe e3)
      | ((with_reducible intro h3); have h4 := Nat.le_of_lt h3; clear h4)))
    intro hx
    exact ⟨_, rfl, hx, o2⟩
def nextId (xs : List Gft) : Int :=
  match xs.getLast? with
  | some y => y.fId + 1
  | none => 1
theorem nextId_at {xs : List Gft} {k : Nat} {y : Gft} (hy : xs[k]? = some y) (hk : k + 1 = xs.length) : nextId xs = y.fId + 1 := by
  unfold nextId
  rw [List.getLast?_eq_getElem?, show xs.length - 1 = k from by omega, hy]
def newO (xs : List Gft) (r : ByteArray) (p d : Int) : Gft := ⟨nextId xs, r, p, d, -1⟩
def takeP (xs : List Gft) (r : ByteArray) (p d : Int) : List Gft × Int × Bool :=
  if areG xs && areG (xs ++ [newO xs r p d]) then (xs ++ [newO xs r p d], nextId xs, true) else ([], 0, false)
theorem takeP_len (xs : List Gft) (r : ByteArray) (p d : Int) : (takeP xs r p d).1.length ≤ xs.length + 1 := by
  unfold takeP
  split <;> simp

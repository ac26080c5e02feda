/- What the helpers of the laws tell. -/
import Derived.Test.YtohnoccmaeegdaaGreatDoorRows
import Derived.Test.YtohnoccmaeegdaaGreatDoorStrs
namespace Go.Proofs.YtohnoccmaeegdaaGreatDoor
open Go Go.X Go.Proofs Go.ChangeShapes Go.WideShapes Go.ChangeAt Go.RowKit
open Go.ChangeMaps (open_string shut_string)
set_option maxHeartbeats 1000000
set_option maxRecDepth 20000
set_option linter.unusedVariables false
set_option linter.unusedSimpArgs false
theorem rBig_c (a : Option Addr) (n c : Nat) (w : World) : Calls Tryz.prog 4 #[.slice a n c] w fun e w' => e = .returned (.bool (decide ((65536 : Int) < n))) ∧ E0 w w' := by
  refine enterK Non 6 Tryz.func4 rfl rfl rfl fun K hK => ?_
  repeat (any_goals (
    conv => whnf
    first
    | ((with_reducible refine BIF.dec ?_ ?_) <;> intro _)
    | ((with_reducible refine BIF.s ?_ ?_) <;> intro _)
    | (with_reducible refine NEXTK.normal ?_)
    | (with_reducible refine NEXTK.ret ?_)
    | (with_reducible refine NEXTK.exit ?_)
    | (with_reducible refine SEQ.plain ?_)
    | (with_reducible refine hK _ _ ?_)
    | ((with_reducible refine RUNL.agg (fun _ => ?_) ?_); (focus kernel_rfl))
    | (with_reducible refine RUNL.run ?_)
    | ((with_reducible refine AR.ok ?_ ?_); exact ⟨by first | omega | (dsimp only; omega), by first | omega | (dsimp only; omega)⟩)
    | (with_reducible refine AR.wr ?_)
    | ((with_reducible intro w3 e3); try have z3 := cutLe e3)
    | ((with_reducible intro h3); have h4 := Nat.le_of_lt h3; clear h4)))
  all_goals
    intro hx
    exact ⟨rfl, hx⟩
theorem eqaGft (x y : Gft) : ∀ w, (Op.equalIn 10000 41 (.agg (encGft x).toArray) (.agg (encGft y).toArray)).run Tryz.prog w = .ok (decide (x = y)) w := by
  intro w
  rw [eqStruct_run (by kernel_rfl) (by kernel_rfl) (by kernel_rfl) (by kernel_rfl : _ = (x.fId == y.fId && (x.fGiver.toList == y.fGiver.toList && (x.fSheets == y.fSheets && (x.fDay == y.fDay && (x.fThanks == y.fThanks && true)))))) w]
  congr 1
  cases x; cases y
  rw [Bool.eq_iff_iff]
  simp [str_beq, ByteArray.toList_eq, ByteArray.ext_iff]
theorem rGifts_c (a b : Option Addr) (n c m d : Nat) (xs ys : List Gft) (w : World) (hr : Row w a 5 (xs.map encGft)) (hs : Row w b 5 (ys.map encGft)) (hn : xs.length = n) (hm : ys.length = m) (hl : n ≤ 4611686018427387904) (hl2 : m ≤ 4611686018427387904) :
    Calls Tryz.prog 8 #[.slice a n c, .slice b m d] w fun e w' => e = .returned (.bool (decide (xs = ys))) ∧ E0 w w' := by
  refine enterK Non 26 Tryz.func8 rfl rfl rfl fun K hK => ?_
  repeat (any_goals (
    conv => whnf
    first
    | ((with_reducible refine BIF.bne ?_ ?_) <;> intro _)
    | ((with_reducible refine BIF.dec ?_ ?_) <;> intro _)
    | ((with_reducible refine BIF.s ?_ ?_) <;> intro _)
    | (with_reducible refine NEXTK.normal ?_)
    | (with_reducible refine NEXTK.ret ?_)
    | (with_reducible refine NEXTK.exit ?_)
    | (with_reducible refine SEQ.plain ?_)
    | (with_reducible refine hK _ _ ?_)
    | ((with_reducible refine RUNL.agg (fun _ => ?_) ?_); (focus kernel_rfl))
    | (with_reducible refine RUNL.run ?_)
    | ((with_reducible refine AR.ok ?_ ?_); exact ⟨by first | omega | (dsimp only; omega), by first | omega | (dsimp only; omega)⟩)
    | (with_reducible refine AR.wr ?_)
    | ((with_reducible intro w3 e3); try have z3 := cutLe e3)
    | ((with_reducible intro h3); have h4 := Nat.le_of_lt h3; clear h4)))
  · rename_i hne
    intro hx
    refine ⟨?_, hx⟩
    rw [decide_eq_false (fun e => hne (by rw [← hn, ← hm, e]))]; rfl
  · have hnm : n = m := by omega
    refine LOOP.mk Nat (fun k => [(5, .v (.int .i64 k))]) (fun k wr => k ≤ n ∧ xs.take k = ys.take k) (fun k => n - k) 0 rfl ⟨rfl, trivial⟩ ⟨Nat.zero_le _, rfl⟩ ?_
    rintro k wr - ⟨hk, ho⟩
    conv => whnf
    repeat (first | ((with_reducible refine NEXTK.normal ?_); conv => whnf) | ((with_reducible refine NEXTK.exit ?_); conv => whnf) | ((with_reducible refine NEXTK.ret ?_); conv => whnf) | ((with_reducible refine SEQ.plain ?_); conv => whnf) | ((with_reducible refine AR.ok ?_ ?_); exact ⟨by omega, by omega⟩; conv => whnf))
    refine BIF.dec (fun hlt => ?_) (fun hlt => ?_)
    · have hlt1 : k < xs.length := by omega
      have hlt2 : k < ys.length := by omega
      have is1 := hr.isSome (by simp; omega)
      have is2 := hs.isSome (by simp; omega)
      conv => whnf
      repeat (first | ((with_reducible refine NEXTK.normal ?_); conv => whnf) | ((with_reducible refine NEXTK.exit ?_); conv => whnf) | ((with_reducible refine NEXTK.ret ?_); conv => whnf) | ((with_reducible refine SEQ.plain ?_); conv => whnf) | ((with_reducible refine AR.ok ?_ ?_); exact ⟨by omega, by omega⟩; conv => whnf))
      refine DRAW.quiet (by kernel_rfl) (by kernel_rfl) ?_
      repeat (any_goals (
        conv => whnf
        first
        | ((with_reducible refine OBL.mk ?_ (fun _ => ?_)); exact ⟨by omega, by omega, by first | exact is1 | exact is2⟩)
        | ((with_reducible refine ELD.at (enc := encGft) (xs := xs) k hr ?_ ?_ ?_ (fun x hx => ?_)); exact mAddr_Non _; rfl; exact hlt1)
        | ((with_reducible refine ELD.at (enc := encGft) (xs := ys) k hs ?_ ?_ ?_ (fun y hy => ?_)); exact mAddr_Non _; rfl; exact hlt2)
        | ((with_reducible refine EQA.neq (decide (x = y)) ?_ ?_ ?_); (focus kernel_rfl); (focus (exact eqaGft x y)))
        | ((with_reducible refine BIF.s ?_ ?_) <;> intro hxy)
        | ((with_reducible refine BIF.dec ?_ ?_) <;> intro _)
        | ((with_reducible refine BIF.s ?_ ?_) <;> intro _)
        | (with_reducible refine NEXTK.normal ?_)
        | (with_reducible refine NEXTK.ret ?_)
        | (with_reducible refine NEXTK.exit ?_)
        | (with_reducible refine SEQ.plain ?_)
        | (with_reducible refine hK _ _ ?_)
        | ((with_reducible refine RUNL.agg (fun _ => ?_) ?_); (focus kernel_rfl))
        | (with_reducible refine RUNL.run ?_)
        | ((with_reducible refine AR.ok ?_ ?_); exact ⟨by first | omega | (dsimp only; omega), by first | omega | (dsimp only; omega)⟩)
        | (with_reducible refine AR.wr ?_)
        | ((with_reducible intro w3 e3); try have z3 := cutLe e3)
        | ((with_reducible intro h3); have h4 := Nat.le_of_lt h3; clear h4)))
      all_goals first
        | (intro hw
           refine ⟨?_, hw⟩
           rw [decide_eq_false (fun e => by subst e; simp_all)]; rfl)
        | (refine ⟨k + 1, rfl, ⟨rfl, trivial⟩, rfl, rfl, ⟨by omega, ?_⟩, by omega⟩
           rw [List.take_add_one, List.take_add_one, ho]
           simp_all)
    · repeat (any_goals (
        conv => whnf
        first
        | ((with_reducible refine BIF.dec ?_ ?_) <;> intro _)
        | ((with_reducible refine BIF.s ?_ ?_) <;> intro _)
        | (with_reducible refine NEXTK.normal ?_)
        | (with_reducible refine NEXTK.ret ?_)
        | (with_reducible refine NEXTK.exit ?_)
        | (with_reducible refine SEQ.plain ?_)
        | (with_reducible refine hK _ _ ?_)
        | ((with_reducible refine RUNL.agg (fun _ => ?_) ?_); (focus kernel_rfl))
        | (with_reducible refine RUNL.run ?_)
        | ((with_reducible refine AR.ok ?_ ?_); exact ⟨by first | omega | (dsimp only; omega), by first | omega | (dsimp only; omega)⟩)
        | (with_reducible refine AR.wr ?_)
        | ((with_reducible intro w3 e3); try have z3 := cutLe e3)
        | ((with_reducible intro h3); have h4 := Nat.le_of_lt h3; clear h4)))
      intro hx
      refine ⟨?_, hx⟩
      have e1 : k = xs.length := by omega
      have e2 : k = ys.length := by omega
      rw [List.take_of_length_le (by omega), List.take_of_length_le (by omega)] at ho
      rw [decide_eq_true ho]; rfl
theorem rTexts_c (a b : Option Addr) (n c m d : Nat) (xs ys : List ByteArray) (w : World) (hr : Row w a 1 (xs.map encS)) (hs : Row w b 1 (ys.map encS)) (hn : xs.length = n) (hm : ys.length = m) (hl : n ≤ 4611686018427387904) (hl2 : m ≤ 4611686018427387904) :
    Calls Tryz.prog 16 #[.slice a n c, .slice b m d] w fun e w' => e = .returned (.bool (decide (xs = ys))) ∧ E0 w w' := by
  refine enterK Non 26 Tryz.func16 rfl rfl rfl fun K hK => ?_
  repeat (any_goals (
    conv => whnf
    first
    | ((with_reducible refine BIF.bne ?_ ?_) <;> intro _)
    | ((with_reducible refine BIF.dec ?_ ?_) <;> intro _)
    | ((with_reducible refine BIF.s ?_ ?_) <;> intro _)
    | (with_reducible refine NEXTK.normal ?_)
    | (with_reducible refine NEXTK.ret ?_)
    | (with_reducible refine NEXTK.exit ?_)
    | (with_reducible refine SEQ.plain ?_)
    | (with_reducible refine hK _ _ ?_)
    | ((with_reducible refine RUNL.agg (fun _ => ?_) ?_); (focus kernel_rfl))
    | (with_reducible refine RUNL.run ?_)
    | ((with_reducible refine AR.ok ?_ ?_); exact ⟨by first | omega | (dsimp only; omega), by first | omega | (dsimp only; omega)⟩)
    | (with_reducible refine AR.wr ?_)
    | ((with_reducible intro w3 e3); try have z3 := cutLe e3)
    | ((with_reducible intro h3); have h4 := Nat.le_of_lt h3; clear h4)))
  · rename_i hne
    intro hx
    refine ⟨?_, hx⟩
    rw [decide_eq_false (fun e => hne (by rw [← hn, ← hm, e]))]; rfl
  · have hnm : n = m := by omega
    refine LOOP.mk Nat (fun k => [(5, .v (.int .i64 k))]) (fun k wr => k ≤ n ∧ xs.take k = ys.take k) (fun k => n - k) 0 rfl ⟨rfl, trivial⟩ ⟨Nat.zero_le _, rfl⟩ ?_
    rintro k wr - ⟨hk, ho⟩
    conv => whnf
    repeat (first | ((with_reducible refine NEXTK.normal ?_); conv => whnf) | ((with_reducible refine NEXTK.exit ?_); conv => whnf) | ((with_reducible refine NEXTK.ret ?_); conv => whnf) | ((with_reducible refine SEQ.plain ?_); conv => whnf) | ((with_reducible refine AR.ok ?_ ?_); exact ⟨by omega, by omega⟩; conv => whnf))
    refine BIF.dec (fun hlt => ?_) (fun hlt => ?_)
    · have hlt1 : k < xs.length := by omega
      have hlt2 : k < ys.length := by omega
      have is1 := hr.isSome (by simp; omega)
      have is2 := hs.isSome (by simp; omega)
      conv => whnf
      repeat (first | ((with_reducible refine NEXTK.normal ?_); conv => whnf) | ((with_reducible refine NEXTK.exit ?_); conv => whnf) | ((with_reducible refine NEXTK.ret ?_); conv => whnf) | ((with_reducible refine SEQ.plain ?_); conv => whnf) | ((with_reducible refine AR.ok ?_ ?_); exact ⟨by omega, by omega⟩; conv => whnf))
      refine DRAW.quiet (by kernel_rfl) (by kernel_rfl) ?_
      repeat (any_goals (
        conv => whnf
        first
        | ((with_reducible refine OBL.mk ?_ (fun _ => ?_)); exact ⟨by omega, by omega, by first | exact is1 | exact is2⟩)
        | ((with_reducible refine ELD.at (enc := encS) (xs := xs) k hr ?_ ?_ ?_ (fun x hx => ?_)); exact mAddr_Non _; rfl; exact hlt1)
        | ((with_reducible refine ELD.at (enc := encS) (xs := ys) k hs ?_ ?_ ?_ (fun y hy => ?_)); exact mAddr_Non _; rfl; exact hlt2)
        | ((with_reducible refine BIF.sne ?_ ?_) <;> intro _)
        | ((with_reducible refine BIF.dec ?_ ?_) <;> intro _)
        | ((with_reducible refine BIF.s ?_ ?_) <;> intro _)
        | (with_reducible refine NEXTK.normal ?_)
        | (with_reducible refine NEXTK.ret ?_)
        | (with_reducible refine NEXTK.exit ?_)
        | (with_reducible refine SEQ.plain ?_)
        | (with_reducible refine hK _ _ ?_)
        | ((with_reducible refine RUNL.agg (fun _ => ?_) ?_); (focus kernel_rfl))
        | (with_reducible refine RUNL.run ?_)
        | ((with_reducible refine AR.ok ?_ ?_); exact ⟨by first | omega | (dsimp only; omega), by first | omega | (dsimp only; omega)⟩)
        | (with_reducible refine AR.wr ?_)
        | ((with_reducible intro w3 e3); try have z3 := cutLe e3)
        | ((with_reducible intro h3); have h4 := Nat.le_of_lt h3; clear h4)))
      all_goals first
        | (intro hw
           refine ⟨?_, hw⟩
           rw [decide_eq_false (fun e => by subst e; simp_all)]; rfl)
        | (refine ⟨k + 1, rfl, ⟨rfl, trivial⟩, rfl, rfl, ⟨by omega, ?_⟩, by omega⟩
           rw [List.take_add_one, List.take_add_one, ho]
           simp_all)
    · repeat (any_goals (
        conv => whnf
        first
        | ((with_reducible refine BIF.dec ?_ ?_) <;> intro _)
        | ((with_reducible refine BIF.s ?_ ?_) <;> intro _)
        | (with_reducible refine NEXTK.normal ?_)
        | (with_reducible refine NEXTK.ret ?_)
        | (with_reducible refine NEXTK.exit ?_)
        | (with_reducible refine SEQ.plain ?_)
        | (with_reducible refine hK _ _ ?_)
        | ((with_reducible refine RUNL.agg (fun _ => ?_) ?_); (focus kernel_rfl))
        | (with_reducible refine RUNL.run ?_)
        | ((with_reducible refine AR.ok ?_ ?_); exact ⟨by first | omega | (dsimp only; omega), by first | omega | (dsimp only; omega)⟩)
        | (with_reducible refine AR.wr ?_)
        | ((with_reducible intro w3 e3); try have z3 := cutLe e3)
        | ((with_reducible intro h3); have h4 := Nat.le_of_lt h3; clear h4)))
      intro hx
      refine ⟨?_, hx⟩
      have e1 : k = xs.length := by omega
      have e2 : k = ys.length := by omega
      rw [List.take_of_length_le (by omega), List.take_of_length_le (by omega)] at ho
      rw [decide_eq_true ho]; rfl
end Go.Proofs.YtohnoccmaeegdaaGreatDoor

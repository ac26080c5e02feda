/- Where entries clash. -/
import Derived.Test.YtpddilkonkkppaaGreatDoorRows
import Derived.Test.YtpddilkonkkppaaGreatDoorMerge6
import Derived.Test.YtpddilkonkkppaaGreatDoorText
namespace Go.Proofs.YtpddilkonkkppaaGreatDoor
open Go Go.X Go.Proofs Go.ChangeShapes Go.WideShapes Go.ChangeAt Go.RowKit
open Go.ChangeMaps (open_string shut_string)
set_option maxHeartbeats 1000000
set_option maxRecDepth 20000
set_option linter.unusedVariables false
set_option linter.unusedSimpArgs false
structure Cla where
  fKind : Int
  fOne : ByteArray
  fTwo : ByteArray
  deriving DecidableEq
def encCla (x : Cla) : List Value := [.int .i64 x.fKind, .string x.fOne, .string x.fTwo]
def zeroCla : List Value := [.int .i64 0, .string ByteArray.empty, .string ByteArray.empty]
theorem encCla_len (x : Cla) : (encCla x).length = 3 := rfl
theorem encCla_one (x : Cla) : allOne (encCla x) = true := rfl
theorem elemCla : ElemT Tryz.prog 25 63 3 40 zeroCla := ElemT.mk' (by kernel_rfl) (by kernel_rfl)
def fitCla (x : Cla) : Prop := (-9223372036854775808 ≤ x.fKind ∧ x.fKind ≤ 9223372036854775807) ∧ x.fOne.size ≤ maxLen ∧ x.fTwo.size ≤ maxLen
theorem eqCla_c (x y : Cla) (w : World) : Calls Tryz.prog 40 #[.agg (encCla x).toArray, .agg (encCla y).toArray] w fun e w' => e = .returned (.bool (decide (x = y))) ∧ E0 w w' := by
  refine enterK Non 20 Tryz.func40 rfl rfl rfl fun K hK => ?_
  repeat (any_goals (
    conv => whnf
    first
    | ((with_reducible refine BIF.sne ?_ ?_) <;> intro _)
    | ((with_reducible refine BIF.dec ?_ ?_) <;> intro _)
    | ((with_reducible refine BIF.s ?_ ?_) <;> intro _)
    | (with_reducible refine NEXTK.normal ?_)
    | (with_reducible refine NEXTK.ret ?_)
    | (with_reducible refine NEXTK.exit ?_)
    | (with_reducible refine SEQ.plain ?_)
    | (with_reducible refine hK _ _ ?_)
    | ((with_reducible refine RUNL.agg (fun _ => ?_) ?_); (focus kernel_rfl))
    | (with_reducible refine RUNL.run ?_)
    | ((with_reducible refine AR.ok ?_ ?_); exact ⟨by first | omega | (dsimp only; omega), by first | omega | (dsimp only; omega)⟩)
    | (with_reducible refine AR.wr ?_)
    | ((with_reducible intro w3 e3); try have z3 := cutLe e3)
    | ((with_reducible intro h3); have h4 := Nat.le_of_lt h3; clear h4)))
  all_goals
    intro hx
    refine ⟨?_, hx⟩
    cases x; cases y; simp_all [resV]
theorem eqClaS_c (a b : Option Addr) (n c m d : Nat) (xs ys : List Cla) (w : World) (hr : Row w a 3 (xs.map encCla)) (hs : Row w b 3 (ys.map encCla)) (hn : xs.length = n) (hm : ys.length = m) (hl : n ≤ 4611686018427387904) (hl2 : m ≤ 4611686018427387904) :
    Calls Tryz.prog 10 #[.slice a n c, .slice b m d] w fun e w' => e = .returned (.bool (decide (xs = ys))) ∧ E0 w w' := by
  refine enterK Non 27 Tryz.func10 rfl rfl rfl fun K hK => ?_
  conv => whnf
  repeat (first | ((with_reducible refine NEXTK.normal ?_); conv => whnf) | ((with_reducible refine NEXTK.exit ?_); conv => whnf) | ((with_reducible refine NEXTK.ret ?_); conv => whnf) | ((with_reducible refine SEQ.plain ?_); conv => whnf) | ((with_reducible refine AR.ok ?_ ?_); exact ⟨by omega, by omega⟩; conv => whnf))
  refine BIF.bne (fun hne => ?_) (fun he => ?_)
  · repeat (any_goals (
      conv => whnf
      first
      | ((with_reducible refine BIF.dec ?_ ?_) <;> intro _)
      | ((with_reducible refine BIF.s ?_ ?_) <;> intro _)
      | (with_reducible refine NEXTK.normal ?_)
      | (with_reducible refine NEXTK.ret ?_)
      | (with_reducible refine NEXTK.exit ?_)
      | (with_reducible refine SEQ.plain ?_)
      | (with_reducible refine hK _ _ ?_)
      | ((with_reducible refine RUNL.agg (fun _ => ?_) ?_); (focus kernel_rfl))
      | (with_reducible refine RUNL.run ?_)
      | ((with_reducible refine AR.ok ?_ ?_); exact ⟨by first | omega | (dsimp only; omega), by first | omega | (dsimp only; omega)⟩)
      | (with_reducible refine AR.wr ?_)
      | ((with_reducible intro w3 e3); try have z3 := cutLe e3)
      | ((with_reducible intro h3); have h4 := Nat.le_of_lt h3; clear h4)))
    intro hx
    refine ⟨?_, hx⟩
    rw [decide_eq_false (fun e => hne (by rw [← hn, ← hm, e]))]; rfl
  · have hnm : n = m := by omega
    conv => whnf
    repeat (first | ((with_reducible refine NEXTK.normal ?_); conv => whnf) | ((with_reducible refine NEXTK.exit ?_); conv => whnf) | ((with_reducible refine NEXTK.ret ?_); conv => whnf) | ((with_reducible refine SEQ.plain ?_); conv => whnf) | ((with_reducible refine AR.ok ?_ ?_); exact ⟨by omega, by omega⟩; conv => whnf))
    refine LOOP.mk Nat (fun k => [(5, .v (.int .i64 k))]) (fun k wr => k ≤ n ∧ xs.take k = ys.take k) (fun k => n - k) 0 rfl ⟨rfl, trivial⟩ ⟨Nat.zero_le _, rfl⟩ ?_
    rintro k wr - ⟨hk, ho⟩
    conv => whnf
    repeat (first | ((with_reducible refine NEXTK.normal ?_); conv => whnf) | ((with_reducible refine NEXTK.exit ?_); conv => whnf) | ((with_reducible refine NEXTK.ret ?_); conv => whnf) | ((with_reducible refine SEQ.plain ?_); conv => whnf) | ((with_reducible refine AR.ok ?_ ?_); exact ⟨by omega, by omega⟩; conv => whnf))
    refine BIF.dec (fun hlt => ?_) (fun hlt => ?_)
    · have hlt1 : k < xs.length := by omega
      have hlt2 : k < ys.length := by omega
      have is1 := hr.isSome (by simp; omega)
      have is2 := hs.isSome (by simp; omega)
      conv => whnf
      repeat (first | ((with_reducible refine NEXTK.normal ?_); conv => whnf) | ((with_reducible refine NEXTK.exit ?_); conv => whnf) | ((with_reducible refine NEXTK.ret ?_); conv => whnf) | ((with_reducible refine SEQ.plain ?_); conv => whnf) | ((with_reducible refine AR.ok ?_ ?_); exact ⟨by omega, by omega⟩; conv => whnf))
      refine DRAW.quiet (by kernel_rfl) (by kernel_rfl) ?_
      repeat (any_goals (
        conv => whnf
        first
        | ((with_reducible refine OBL.mk ?_ (fun _ => ?_)); exact ⟨by omega, by omega, by first | exact is1 | exact is2⟩)
        | ((with_reducible refine ELD.at (enc := encCla) (xs := xs) k hr ?_ ?_ ?_ (fun x hx => ?_)); exact mAddr_Non _; rfl; exact hlt1)
        | ((with_reducible refine ELD.at (enc := encCla) (xs := ys) k hs ?_ ?_ ?_ (fun y hy => ?_)); exact mAddr_Non _; rfl; exact hlt2)
        | ((with_reducible refine callQ (g := 40) ?_ ?_); kernel_rfl; refine ⟨_, fun w' _ => eqCla_c x y _, ?_⟩)
        | ((with_reducible refine BIF.dec ?_ ?_) <;> intro _)
        | ((with_reducible refine BIF.s ?_ ?_) <;> intro _)
        | (with_reducible refine NEXTK.normal ?_)
        | (with_reducible refine NEXTK.ret ?_)
        | (with_reducible refine NEXTK.exit ?_)
        | (with_reducible refine SEQ.plain ?_)
        | (with_reducible refine hK _ _ ?_)
        | ((with_reducible refine RUNL.agg (fun _ => ?_) ?_); (focus kernel_rfl))
        | (with_reducible refine RUNL.run ?_)
        | ((with_reducible refine AR.ok ?_ ?_); exact ⟨by first | omega | (dsimp only; omega), by first | omega | (dsimp only; omega)⟩)
        | (with_reducible refine AR.wr ?_)
        | ((with_reducible intro w3 e3); try have z3 := cutLe e3)
        | ((with_reducible intro h3); have h4 := Nat.le_of_lt h3; clear h4)))
      all_goals first
        | (intro hw
           refine ⟨?_, hw⟩
           rw [decide_eq_false (fun e => by subst e; simp_all)]; rfl)
        | (refine ⟨k + 1, rfl, ⟨rfl, trivial⟩, rfl, rfl, ⟨by omega, ?_⟩, by omega⟩
           rw [List.take_add_one, List.take_add_one, ho]
           simp_all)
    · conv => whnf
      repeat (first | ((with_reducible refine NEXTK.normal ?_); conv => whnf) | ((with_reducible refine NEXTK.exit ?_); conv => whnf) | ((with_reducible refine NEXTK.ret ?_); conv => whnf) | ((with_reducible refine SEQ.plain ?_); conv => whnf) | ((with_reducible refine AR.ok ?_ ?_); exact ⟨by omega, by omega⟩; conv => whnf))
      refine hK _ _ ?_
      conv => whnf
      intro hx
      refine ⟨?_, hx⟩
      have e1 : k = xs.length := by omega
      have e2 : k = ys.length := by omega
      rw [List.take_of_length_le (by omega), List.take_of_length_le (by omega)] at ho
      rw [decide_eq_true ho]; rfl
def mkCla (k : Int) (i : Nat) : Cla := ⟨k + 3 * i, mtS (k + 3 * i + 1), mtS (k + 3 * i + 1 + 1)⟩
theorem markClaS_c (lo : Nat) (a : Option Addr) (n cp : Nat) (xs : List Cla) (k : Int) (w : World) (ho : Own w lo 63 3 (.slice a n cp) (xs.map encCla)) (hn : xs.length = n) (hm : n ≤ 4194304) (hk : 0 ≤ k ∧ k ≤ 1099511627776) :
    Calls Tryz.prog 12 #[.slice a n cp, .int .i64 k] w fun e w' => ∃ r, e = .returned r ∧ Ext (fun b => (Value.slice a n cp).ownBlock = some b) w w' ∧ r = .int .i64 (k + 3 * n) ∧ Own w' lo 63 3 (.slice a n cp) (((List.range n).map (mkCla k)).map encCla) := by
  refine enterK (fun b => (Value.slice a n cp).ownBlock = some b) 36 Tryz.func12 rfl rfl rfl fun K hK => ?_
  conv => whnf
  repeat (first | ((with_reducible refine NEXTK.normal ?_); conv => whnf) | ((with_reducible refine NEXTK.exit ?_); conv => whnf) | ((with_reducible refine NEXTK.ret ?_); conv => whnf) | ((with_reducible refine SEQ.plain ?_); conv => whnf) | ((with_reducible refine AR.ok ?_ ?_); exact ⟨by omega, by omega⟩; conv => whnf))
  refine LOOP.mk Nat (fun j => [(5, .v (.int .i64 j)), (1, .v (.int .i64 (k + 3 * j)))]) (fun j wr => j ≤ n ∧ Own wr lo 63 3 (.slice a n cp) (((List.range j).map (mkCla k) ++ xs.drop j).map encCla)) (fun j => n - j) 0 rfl ⟨rfl, by simp [lk, Nat.beq], trivial⟩ ⟨Nat.zero_le _, by simpa using ho⟩ ?_
  rintro j wr - ⟨hj, hw⟩
  conv => whnf
  repeat (first | ((with_reducible refine NEXTK.normal ?_); conv => whnf) | ((with_reducible refine NEXTK.exit ?_); conv => whnf) | ((with_reducible refine NEXTK.ret ?_); conv => whnf) | ((with_reducible refine SEQ.plain ?_); conv => whnf) | ((with_reducible refine AR.ok ?_ ?_); exact ⟨by omega, by omega⟩; conv => whnf))
  refine BIF.dec (fun hlt => ?_) (fun hlt => ?_)
  · have hlt' : j < xs.length := by omega
    obtain ⟨x, hx⟩ : ∃ x, xs[j]? = some x := ⟨xs[j], by simp [hlt']⟩
    have his := hw.row.1.isSome (by simp; omega)
    have g0 := mark_get (mkCla k) encCla hx
    repeat (any_goals (
      conv => whnf
      first
      | ((with_reducible refine OBL.mk ?_ (fun _ => ?_)); exact ⟨by omega, by omega, his⟩)
      | ((with_reducible refine BIF.dec ?_ ?_) <;> intro _)
      | ((with_reducible refine BIF.s ?_ ?_) <;> intro _)
      | (with_reducible refine NEXTK.normal ?_)
      | (with_reducible refine NEXTK.ret ?_)
      | (with_reducible refine NEXTK.exit ?_)
      | (with_reducible refine SEQ.plain ?_)
      | (with_reducible refine hK _ _ ?_)
      | ((with_reducible refine RUNL.agg (fun _ => ?_) ?_); (focus kernel_rfl))
      | (with_reducible refine RUNL.run ?_)
      | ((with_reducible refine AR.ok ?_ ?_); exact ⟨by first | omega | (dsimp only; omega), by first | omega | (dsimp only; omega)⟩)
      | (with_reducible refine AR.wr ?_)
      | ((with_reducible intro w3 e3); try have z3 := cutLe e3)
      | ((with_reducible intro h3); have h4 := Nat.le_of_lt h3; clear h4)))
    conv => whnf
    refine stM (i := j) hw rfl rfl rfl j rfl g0 (by decide) (fun _ h => h) trivial (fun w0' e0 hw0 => ?_)
    clear hw
    replace hw : Own w0' lo 63 3 (.slice a n cp) (List.set _ j [.int .i64 (k + 3 * j), .string x.fOne, .string x.fTwo]) := hw0
    clear hw0
    have g1 := set_get (d := [.int .i64 (k + 3 * j), .string x.fOne, .string x.fTwo]) g0
    repeat (any_goals (
      conv => whnf
      first
      | ((with_reducible refine callF (g := 41) ?_ ?_); kernel_rfl; refine ⟨_, markText_c _ _ (by omega), ?_⟩; intro w4 e4; replace hw := hw.e0 e4)
      | ((with_reducible refine OBL.mk ?_ (fun _ => ?_)); exact ⟨by omega, by omega, his⟩)
      | ((with_reducible refine BIF.dec ?_ ?_) <;> intro _)
      | ((with_reducible refine BIF.s ?_ ?_) <;> intro _)
      | (with_reducible refine NEXTK.normal ?_)
      | (with_reducible refine NEXTK.ret ?_)
      | (with_reducible refine NEXTK.exit ?_)
      | (with_reducible refine SEQ.plain ?_)
      | (with_reducible refine hK _ _ ?_)
      | ((with_reducible refine RUNL.agg (fun _ => ?_) ?_); (focus kernel_rfl))
      | (with_reducible refine RUNL.run ?_)
      | ((with_reducible refine AR.ok ?_ ?_); exact ⟨by first | omega | (dsimp only; omega), by first | omega | (dsimp only; omega)⟩)
      | (with_reducible refine AR.wr ?_)
      | ((with_reducible intro w3 e3); try have z3 := cutLe e3)
      | ((with_reducible intro h3); have h4 := Nat.le_of_lt h3; clear h4)))
    conv => whnf
    refine stM (i := j) hw rfl rfl rfl j rfl g1 (by decide) (fun _ h => h) trivial (fun w1' e1 hw1 => ?_)
    clear hw
    replace hw : Own w1' lo 63 3 (.slice a n cp) (List.set _ j [.int .i64 (k + 3 * j), .string (mtS (k + 3 * j + 1)), .string x.fTwo]) := hw1
    clear hw1
    have g2 := set_get (d := [.int .i64 (k + 3 * j), .string (mtS (k + 3 * j + 1)), .string x.fTwo]) g1
    repeat (any_goals (
      conv => whnf
      first
      | ((with_reducible refine callF (g := 41) ?_ ?_); kernel_rfl; refine ⟨_, markText_c _ _ (by omega), ?_⟩; intro w4 e4; replace hw := hw.e0 e4)
      | ((with_reducible refine OBL.mk ?_ (fun _ => ?_)); exact ⟨by omega, by omega, his⟩)
      | ((with_reducible refine BIF.dec ?_ ?_) <;> intro _)
      | ((with_reducible refine BIF.s ?_ ?_) <;> intro _)
      | (with_reducible refine NEXTK.normal ?_)
      | (with_reducible refine NEXTK.ret ?_)
      | (with_reducible refine NEXTK.exit ?_)
      | (with_reducible refine SEQ.plain ?_)
      | (with_reducible refine hK _ _ ?_)
      | ((with_reducible refine RUNL.agg (fun _ => ?_) ?_); (focus kernel_rfl))
      | (with_reducible refine RUNL.run ?_)
      | ((with_reducible refine AR.ok ?_ ?_); exact ⟨by first | omega | (dsimp only; omega), by first | omega | (dsimp only; omega)⟩)
      | (with_reducible refine AR.wr ?_)
      | ((with_reducible intro w3 e3); try have z3 := cutLe e3)
      | ((with_reducible intro h3); have h4 := Nat.le_of_lt h3; clear h4)))
    conv => whnf
    refine stM (i := j) hw rfl rfl rfl j rfl g2 (by decide) (fun _ h => h) trivial (fun w2' e2 hw2 => ?_)
    clear hw
    replace hw : Own w2' lo 63 3 (.slice a n cp) (List.set _ j [.int .i64 (k + 3 * j), .string (mtS (k + 3 * j + 1)), .string (mtS (k + 3 * j + 1 + 1))]) := hw2
    clear hw2
    have g3 := set_get (d := [.int .i64 (k + 3 * j), .string (mtS (k + 3 * j + 1)), .string (mtS (k + 3 * j + 1 + 1))]) g2
    simp only [List.set_set] at hw
    replace hw := (mark_set (mkCla k) xs encCla j hlt') ▸ hw
    repeat (any_goals (
      conv => whnf
      first
      | ((with_reducible refine BIF.dec ?_ ?_) <;> intro _)
      | ((with_reducible refine BIF.s ?_ ?_) <;> intro _)
      | (with_reducible refine NEXTK.normal ?_)
      | (with_reducible refine NEXTK.ret ?_)
      | (with_reducible refine NEXTK.exit ?_)
      | (with_reducible refine SEQ.plain ?_)
      | (with_reducible refine hK _ _ ?_)
      | ((with_reducible refine RUNL.agg (fun _ => ?_) ?_); (focus kernel_rfl))
      | (with_reducible refine RUNL.run ?_)
      | ((with_reducible refine AR.ok ?_ ?_); exact ⟨by first | omega | (dsimp only; omega), by first | omega | (dsimp only; omega)⟩)
      | (with_reducible refine AR.wr ?_)
      | ((with_reducible intro w3 e3); try have z3 := cutLe e3)
      | ((with_reducible intro h3); have h4 := Nat.le_of_lt h3; clear h4)))
    refine ⟨j + 1, rfl, ⟨rfl, ?_, trivial⟩, rfl, rfl, ⟨by omega, hw⟩, by omega⟩
    simp [lk, Nat.beq]
    omega
  · obtain rfl : j = n := by omega
    conv => whnf
    repeat (first | ((with_reducible refine NEXTK.normal ?_); conv => whnf) | ((with_reducible refine NEXTK.exit ?_); conv => whnf) | ((with_reducible refine NEXTK.ret ?_); conv => whnf) | ((with_reducible refine SEQ.plain ?_); conv => whnf) | ((with_reducible refine AR.ok ?_ ?_); exact ⟨by omega, by omega⟩; conv => whnf))
    refine hK _ _ ?_
    conv => whnf
    intro hx
    rw [mark_all _ _ _ hn] at hw
    exact ⟨_, rfl, hx, rfl, hw⟩
theorem heldClaS_c (a : Option Addr) (n cp : Nat) (k : Int) (w : World) (hr : Row w a 3 (((List.range n).map (mkCla k)).map encCla)) (hm : n ≤ 4194304) (hk : 0 ≤ k ∧ k ≤ 1099511627776) :
    Calls Tryz.prog 14 #[.slice a n cp, .int .i64 k] w fun e w' => e = .returned (.int .i64 (k + 3 * n)) ∧ E0 w w' := by
  refine enterK Non 42 Tryz.func14 rfl rfl rfl fun K hK => ?_
  conv => whnf
  repeat (first | ((with_reducible refine NEXTK.normal ?_); conv => whnf) | ((with_reducible refine NEXTK.exit ?_); conv => whnf) | ((with_reducible refine NEXTK.ret ?_); conv => whnf) | ((with_reducible refine SEQ.plain ?_); conv => whnf) | ((with_reducible refine AR.ok ?_ ?_); exact ⟨by omega, by omega⟩; conv => whnf))
  refine LOOP.mk Nat (fun j => [(5, .v (.int .i64 j)), (1, .v (.int .i64 (k + 3 * j)))]) (fun j wr => j ≤ n) (fun j => n - j) 0 rfl ⟨rfl, by simp [lk, Nat.beq], trivial⟩ (Nat.zero_le _) ?_
  rintro j wr - hj
  conv => whnf
  repeat (first | ((with_reducible refine NEXTK.normal ?_); conv => whnf) | ((with_reducible refine NEXTK.exit ?_); conv => whnf) | ((with_reducible refine NEXTK.ret ?_); conv => whnf) | ((with_reducible refine SEQ.plain ?_); conv => whnf) | ((with_reducible refine AR.ok ?_ ?_); exact ⟨by omega, by omega⟩; conv => whnf))
  refine BIF.dec (fun hlt => ?_) (fun hlt => ?_)
  · have hlt' : j < ((List.range n).map (mkCla k)).length := by simp; omega
    have his := hr.isSome (by simp; omega)
    have hx : ((List.range n).map (mkCla k))[j]? = some (mkCla k j) := by rw [List.getElem?_map, List.getElem?_range (by omega)]; rfl
    repeat (any_goals (
      conv => whnf
      first
      | ((with_reducible refine OBL.mk ?_ (fun _ => ?_)); exact ⟨by first | omega | (dsimp only; omega), by first | omega | (dsimp only; omega), his⟩)
      | ((with_reducible refine ELD.at (j) hr ?_ ?_ ?_ (fun x' hx' => ?_)); exact mAddr_Non _; (first | rfl | omega); exact hlt'; obtain rfl : mkCla k j = x' := by (rw [hx] at hx'; exact Option.some.inj hx'))
      | ((with_reducible refine DRAW.quietE ?_ ?_ ?_); kernel_rfl; kernel_rfl)
      | ((with_reducible refine callF (g := 41) ?_ ?_); kernel_rfl; refine ⟨_, markText_c _ _ (by omega), ?_⟩; intro w4 e4; have z4 := cutLe e4)
      | ((with_reducible refine callQ (g := 41) ?_ ?_); kernel_rfl; refine ⟨_, fun w' _ => markText_c _ w' (by omega), ?_⟩)
      | ((with_reducible refine BIF.sne (fun h => absurd rfl h) (fun _ => ?_)))
      | ((with_reducible refine BIF.bne (fun h => absurd rfl h) (fun _ => ?_)))
      | ((with_reducible refine BIF.dec ?_ ?_) <;> intro _)
      | ((with_reducible refine BIF.s ?_ ?_) <;> intro _)
      | (with_reducible refine NEXTK.normal ?_)
      | (with_reducible refine NEXTK.ret ?_)
      | (with_reducible refine NEXTK.exit ?_)
      | (with_reducible refine SEQ.plain ?_)
      | (with_reducible refine hK _ _ ?_)
      | ((with_reducible refine RUNL.agg (fun _ => ?_) ?_); (focus kernel_rfl))
      | (with_reducible refine RUNL.run ?_)
      | ((with_reducible refine AR.ok ?_ ?_); exact ⟨by first | omega | (dsimp only; omega), by first | omega | (dsimp only; omega)⟩)
      | (with_reducible refine AR.wr ?_)
      | ((with_reducible intro w3 e3); try have z3 := cutLe e3)
      | ((with_reducible intro h3); have h4 := Nat.le_of_lt h3; clear h4)))
    refine ⟨j + 1, rfl, ⟨rfl, ?_, trivial⟩, rfl, rfl, by omega, by omega⟩
    simp [lk, Nat.beq]
    omega
  · obtain rfl : j = n := by omega
    repeat (any_goals (
      conv => whnf
      first
      | ((with_reducible refine BIF.dec ?_ ?_) <;> intro _)
      | ((with_reducible refine BIF.s ?_ ?_) <;> intro _)
      | (with_reducible refine NEXTK.normal ?_)
      | (with_reducible refine NEXTK.ret ?_)
      | (with_reducible refine NEXTK.exit ?_)
      | (with_reducible refine SEQ.plain ?_)
      | (with_reducible refine hK _ _ ?_)
      | ((with_reducible refine RUNL.agg (fun _ => ?_) ?_); (focus kernel_rfl))
      | (with_reducible refine RUNL.run ?_)
      | ((with_reducible refine AR.ok ?_ ?_); exact ⟨by first | omega | (dsimp only; omega), by first | omega | (dsimp only; omega)⟩)
      | (with_reducible refine AR.wr ?_)
      | ((with_reducible intro w3 e3); try have z3 := cutLe e3)
      | ((with_reducible intro h3); have h4 := Nat.le_of_lt h3; clear h4)))
    intro hx
    exact ⟨rfl, hx⟩
def alikeB (x y : Ent) : Bool := decide (x.fTitle = y.fTitle) && (decide (x.fPlace = y.fPlace) || decide (x.fPlace = ByteArray.empty) || decide (y.fPlace = ByteArray.empty)) && (decide (x.fYear = y.fYear) || decide (x.fYear = 0) || decide (y.fYear = 0))
theorem alike_c (t u : Tri) (w : World) : Calls Tryz.prog 59 #[.agg (encT t).toArray, .agg (encT u).toArray] w fun e w' => e = .returned (.bool (alikeB t.1 u.1)) ∧ E0 w w' := by
  refine enterK Non 44 Tryz.func59 rfl rfl rfl fun K hK => ?_
  repeat (any_goals (
    conv => whnf
    first
    | ((with_reducible refine BIF.seq ?_ ?_) <;> intro _)
    | ((with_reducible refine BIF.beq ?_ ?_) <;> intro _)
    | ((with_reducible refine BIF.dec ?_ ?_) <;> intro _)
    | ((with_reducible refine BIF.s ?_ ?_) <;> intro _)
    | (with_reducible refine NEXTK.normal ?_)
    | (with_reducible refine NEXTK.ret ?_)
    | (with_reducible refine NEXTK.exit ?_)
    | (with_reducible refine SEQ.plain ?_)
    | (with_reducible refine hK _ _ ?_)
    | ((with_reducible refine RUNL.agg (fun _ => ?_) ?_); (focus kernel_rfl))
    | (with_reducible refine RUNL.run ?_)
    | ((with_reducible refine AR.ok ?_ ?_); exact ⟨by first | omega | (dsimp only; omega), by first | omega | (dsimp only; omega)⟩)
    | (with_reducible refine AR.wr ?_)
    | ((with_reducible intro w3 e3); try have z3 := cutLe e3)
    | ((with_reducible intro h3); have h4 := Nat.le_of_lt h3; clear h4)))
  all_goals
    intro hx
    refine ⟨?_, hx⟩
    clear hK
    have e0 : (⟨#[]⟩ : ByteArray) = ByteArray.empty := rfl
    simp only [e0] at *
    first
    | (simp_all [resV, alikeB]; done)
    | (simp_all [resV, alikeB]; rfl)
def clashP (x y : Ent) : List Cla :=
  (if x.fTitle = y.fTitle then [] else [⟨1, x.fTitle, y.fTitle⟩]) ++
  (if ¬ x.fPlace = y.fPlace ∧ ¬ x.fPlace = ByteArray.empty ∧ ¬ y.fPlace = ByteArray.empty then [⟨2, x.fPlace, y.fPlace⟩] else []) ++
  (if ¬ x.fYear = y.fYear ∧ ¬ x.fYear = 0 ∧ ¬ y.fYear = 0 then [⟨3, numS x.fYear, numS y.fYear⟩] else [])
theorem clashP_alike (x y : Ent) : (clashP x y).length = 0 ↔ alikeB x y = true := by
  unfold clashP alikeB
  by_cases h1 : x.fTitle = y.fTitle <;> by_cases h2 : x.fPlace = y.fPlace <;> by_cases h3 : x.fPlace = ByteArray.empty <;> by_cases h4 : y.fPlace = ByteArray.empty <;>
    by_cases h5 : x.fYear = y.fYear <;> by_cases h6 : x.fYear = 0 <;> by_cases h7 : y.fYear = 0 <;> simp [h1, h2, h3, h4, h5, h6, h7]
theorem l25Clashes_c (t u : Tri) (w : World) (ht : 0 ≤ t.1.fYear ∧ t.1.fYear ≤ 9223372036854775807) (hu : 0 ≤ u.1.fYear ∧ u.1.fYear ≤ 9223372036854775807) :
    Calls Tryz.prog 34 #[.agg (encT t).toArray, .agg (encT u).toArray] w fun e w' => ∃ v, e = .returned v ∧ E0 w w' ∧ Own w' w.heap.size 63 3 v ((clashP t.1 u.1).map encCla) := by
  refine enterK Non 69 Tryz.func34 rfl rfl rfl fun K hK => ?_
  repeat (any_goals (
    conv => whnf
    first
    | ((with_reducible refine BIF.dec ?_ ?_) <;> intro _)
    | ((with_reducible refine BIF.s ?_ ?_) <;> intro _)
    | (with_reducible refine NEXTK.normal ?_)
    | (with_reducible refine NEXTK.ret ?_)
    | (with_reducible refine NEXTK.exit ?_)
    | (with_reducible refine SEQ.plain ?_)
    | (with_reducible refine hK _ _ ?_)
    | ((with_reducible refine RUNL.agg (fun _ => ?_) ?_); (focus kernel_rfl))
    | (with_reducible refine RUNL.run ?_)
    | ((with_reducible refine AR.ok ?_ ?_); exact ⟨by first | omega | (dsimp only; omega), by first | omega | (dsimp only; omega)⟩)
    | (with_reducible refine AR.wr ?_)
    | ((with_reducible intro w3 e3); try have z3 := cutLe e3)
    | ((with_reducible intro h3); have h4 := Nat.le_of_lt h3; clear h4)))
  conv => whnf
  refine bsS elemCla [] rfl rfl (by simp) (by omega) (fun w9 e9 oC => ?_)
  have z9 := cutLe e9
  have hbox : w.heap.size + 2 ≤ w3.heap.size := by omega
  obtain ⟨cs, hcs⟩ : ∃ cs : List Cla, cs = [] := ⟨_, rfl⟩
  obtain ⟨lo, hlo⟩ : ∃ lo, lo = w3.heap.size := ⟨_, rfl⟩
  obtain ⟨aC, nC, dC, hv0, hnC⟩ : ∃ (aC : Option Addr) (nC dC : Nat), Value.slice (some ⟨w3.heap.size, 0, none⟩) 0 0 = Value.slice aC nC dC ∧ nC = cs.length := ⟨_, _, _, rfl, by rw [hcs]; rfl⟩
  replace oC : Own w9 lo 63 3 (.slice aC nC dC) (cs.map encCla) := by rw [hcs, hlo, ← hv0]; exact oC
  rw [hv0]
  have oL := fun k h => oC.block (k := k) h
  have hcl : cs.length ≤ 3 := by rw [hcs]; simp
  clear hv0
  repeat (any_goals (
    conv => whnf
    first
    | ((with_reducible intro w3 e3); have z3 := cutLe e3; replace oC := oC.e0 e3; (try replace oB := oB.e0 e3))
    | ((with_reducible refine BIF.sne ?_ ?_) <;> intro _)
    | ((with_reducible refine BIF.bne ?_ ?_) <;> intro _)
    | ((with_reducible refine bsS elemCla [.agg (encCla ⟨1, t.1.fTitle, u.1.fTitle⟩).toArray] ?_ ?_ ?_ ?_ ?_); (focus rfl); (focus rfl); (focus (intro v hv; simp at hv; subst hv; rfl)); (focus omega); intro w9 e9 oB; have z9 := cutLe e9; replace oC := oC.e0 e9; obtain ⟨nc, hnc⟩ : ∃ nc : Cla, nc = ⟨1, t.1.fTitle, u.1.fTitle⟩ := ⟨_, rfl⟩; replace oB : Own w9 _ 63 3 _ ([nc].map encCla) := (by rw [hnc]; exact oB))
    | ((with_reducible refine bsS elemCla [.agg (encCla ⟨2, t.1.fPlace, u.1.fPlace⟩).toArray] ?_ ?_ ?_ ?_ ?_); (focus rfl); (focus rfl); (focus (intro v hv; simp at hv; subst hv; rfl)); (focus omega); intro w9 e9 oB; have z9 := cutLe e9; replace oC := oC.e0 e9; obtain ⟨nc, hnc⟩ : ∃ nc : Cla, nc = ⟨2, t.1.fPlace, u.1.fPlace⟩ := ⟨_, rfl⟩; replace oB : Own w9 _ 63 3 _ ([nc].map encCla) := (by rw [hnc]; exact oB))
    | ((with_reducible refine bsS elemCla [.agg (encCla ⟨3, numS t.1.fYear, numS u.1.fYear⟩).toArray] ?_ ?_ ?_ ?_ ?_); (focus rfl); (focus rfl); (focus (intro v hv; simp at hv; subst hv; rfl)); (focus omega); intro w9 e9 oB; have z9 := cutLe e9; replace oC := oC.e0 e9; obtain ⟨nc, hnc⟩ : ∃ nc : Cla, nc = ⟨3, numS t.1.fYear, numS u.1.fYear⟩ := ⟨_, rfl⟩; replace oB : Own w9 _ 63 3 _ ([nc].map encCla) := (by rw [hnc]; exact oB))
    | ((with_reducible refine apS elemCla oC oB.row.1 ?_ ?_ ?_ ?_ ?_ (fun v2 w2 x2 o2 => ?_)); (focus rfl); (focus exact (by intro l hl; obtain ⟨x, -, rfl⟩ := List.mem_map.1 hl; rfl)); (focus exact ⟨by simp; omega, by simp; omega⟩); (focus exact ⟨(by show w.heap.size ≤ _; omega), by omega⟩); (focus exact (by repeat (first | exact trivial | (refine ⟨?_, ?_⟩; (focus (intro h; have hh := oL _ h; dsimp only at hh; omega)))))); have z2 := cutLe x2; obtain ⟨cs, hcs2⟩ : ∃ c2, c2 = cs ++ [nc] := ⟨_, rfl⟩; replace oC : Own w2 lo 63 3 v2 (cs.map encCla) := (by rw [hcs2]; simpa using o2); clear o2; have oL := fun k h => oC.block (k := k) h; obtain ⟨bC, dD, rfl, qC, pC⟩ := oC.rowx; rw [hcs, hnc] at hcs2; clear hcs; have hcs := hcs2; clear hcs2; have hcl : cs.length ≤ 3 := (by rw [hcs]; simp))
    | ((with_reducible refine DRAW.plan (id := 7) (.one 0 (.one 1 (.one 4 (.start (.alt 2 (.start (.alt 3 (.start (.alt 5 (.start (.alt 6 (.one 7 (.start (.alt 8 (.start (.alt 9 (.one 10 .done) .stop)) .stop))) .stop)) .stop)) (.alt 5 (.start (.alt 3 (.start (.alt 6 (.one 7 (.start (.alt 8 (.start (.alt 9 (.one 10 .done) .stop)) .stop))) .stop)) .stop)) .stop))) (.alt 5 (.start (.alt 2 (.start (.alt 3 (.start (.alt 6 (.one 7 (.start (.alt 8 (.start (.alt 9 (.one 10 .done) .stop)) .stop))) .stop)) .stop)) .stop)) .stop)))))) ?_ ?_ ?_ ?_); kernel_rfl; kernel_rfl; kernel_rfl)
    | (with_reducible refine And.intro ?_ ?_)
    | (exact True.intro)
    | ((with_reducible refine callF (g := 66) ?_ ?_); kernel_rfl; refine ⟨_, l1Num_z _ _ (by omega), ?_⟩; intro w4 e4; have z4 := cutLe e4; replace oC := oC.e0 e4)
    | ((with_reducible refine BIF.dec ?_ ?_) <;> intro _)
    | ((with_reducible refine BIF.s ?_ ?_) <;> intro _)
    | (with_reducible refine NEXTK.normal ?_)
    | (with_reducible refine NEXTK.ret ?_)
    | (with_reducible refine NEXTK.exit ?_)
    | (with_reducible refine SEQ.plain ?_)
    | (with_reducible refine hK _ _ ?_)
    | ((with_reducible refine RUNL.agg (fun _ => ?_) ?_); (focus kernel_rfl))
    | (with_reducible refine RUNL.run ?_)
    | ((with_reducible refine AR.ok ?_ ?_); exact ⟨by first | omega | (dsimp only; omega), by first | omega | (dsimp only; omega)⟩)
    | (with_reducible refine AR.wr ?_)
    | ((with_reducible intro w3 e3); try have z3 := cutLe e3)
    | ((with_reducible intro h3); have h4 := Nat.le_of_lt h3; clear h4)))
  all_goals
    intro hx
    have hfin : cs = clashP t.1 u.1 := by
      rw [hcs]
      clear hK oC oL
      unfold clashP
      have e0 : (⟨#[]⟩ : ByteArray) = ByteArray.empty := rfl
      simp only [e0] at *
      simp_all
    first
    | exact ⟨_, rfl, hx, (hfin ▸ oC).lo (by omega)⟩
    | exact ⟨_, rfl, hx, (by rw [← hfin]; first | exact oC.lo (by omega) | (rw [← hnC]; exact oC.lo (by omega)))⟩

end Go.Proofs.YtpddilkonkkppaaGreatDoor

/- The new job. -/
import Derived.Test.YtckflfckaobfnaaRows
import Derived.Test.YtckflfckaobfnaaBase
namespace Go.Proofs.Ytckflfckaobfnaa
open Go Go.X Go.Proofs Go.ChangeShapes Go.WideShapes Go.ChangeAt Go.RowKit
open Go.ChangeMaps (open_string shut_string)
set_option maxHeartbeats 1000000
set_option maxRecDepth 20000
set_option linter.unusedVariables false
set_option linter.unusedSimpArgs false
structure Job where
  fState : Int
  fTiles : List Int
  fNext : Int
  fFails : Int
  fSize : Int
  deriving DecidableEq
def encJob (x : Job) (a : Option Addr) (n c : Nat) : List Value := [.int .i64 x.fState, .slice a n c, .int .i64 x.fNext, .int .i64 x.fFails, .int .i64 x.fSize]
theorem eqScanJob_c (x y : Job) (a b : Option Addr) (n c m d : Nat) (w : World) (hr : Row w a 1 (x.fTiles.map encI)) (hs : Row w b 1 (y.fTiles.map encI)) (hn : x.fTiles.length = n) (hm : y.fTiles.length = m) (hl : n ≤ 4611686018427387904) (hl2 : m ≤ 4611686018427387904) :
    Calls Try.prog 10 #[.agg (encJob x a n c).toArray, .agg (encJob y b m d).toArray] w fun e w' => e = .returned (.bool (decide (x = y))) ∧ E0 w w' := by
  refine enterK Non 31 Try.func10 rfl rfl rfl fun K hK => ?_
  repeat (any_goals (
    conv => whnf
    first
    | ((with_reducible refine callF (g := 25) ?_ ?_); kernel_rfl; refine ⟨_, eqIntS_c _ _ _ _ _ _ x.fTiles y.fTiles _ (by repeat (first | assumption | refine Row.e0 ?_ (by assumption))) (by repeat (first | assumption | refine Row.e0 ?_ (by assumption))) hn hm hl hl2, ?_⟩; intro w4 e4; have z4 := cutLe e4)
    | ((with_reducible refine BIF.bne ?_ ?_) <;> intro _)
    | ((with_reducible refine BIF.dec ?_ ?_) <;> intro _)
    | ((with_reducible refine BIF.s ?_ ?_) <;> intro _)
    | (with_reducible refine NEXTK.normal ?_)
    | (with_reducible refine NEXTK.ret ?_)
    | (with_reducible refine NEXTK.exit ?_)
    | (with_reducible refine SEQ.plain ?_)
    | (with_reducible refine hK _ _ ?_)
    | ((with_reducible refine AR.ok ?_ ?_); exact ⟨by first | omega | (dsimp only; omega), by first | omega | (dsimp only; omega)⟩)
    | (with_reducible refine AR.wr ?_)
    | ((with_reducible intro w3 e3); try have z3 := cutLe e3)
    | ((with_reducible intro h3); have h4 := Nat.le_of_lt h3; clear h4)))
  all_goals
    intro hx
    refine ⟨?_, hx⟩
    cases x; cases y; simp_all [resV]
theorem markScanJob_c (lo : Nat) (x : Job) (a : Option Addr) (n cp : Nat) (k : Int) (w : World) (ho : Own w lo 3 1 (.slice a n cp) (x.fTiles.map encI)) (hn : x.fTiles.length = n) (hm : n ≤ 4194304) (hk : 0 ≤ k ∧ k ≤ 1099511627776) :
    Calls Try.prog 11 #[.agg (encJob x a n cp).toArray, .int .i64 k] w fun e w' => ∃ r, e = .returned r ∧ Ext (fun b => (Value.slice a n cp).ownBlock = some b) w w' ∧ r = .int .i64 (k + 1 * n) ∧ Own w' lo 3 1 (.slice a n cp) (((List.range n).map (mkI k)).map encI) := by
  refine enterK (fun b => (Value.slice a n cp).ownBlock = some b) 10 Try.func11 rfl rfl rfl fun K hK => ?_
  have oL := fun k h => ho.block (k := k) h
  repeat (any_goals (
    conv => whnf
    first
    | ((with_reducible refine BIF.dec ?_ ?_) <;> intro _)
    | ((with_reducible refine BIF.s ?_ ?_) <;> intro _)
    | (with_reducible refine NEXTK.normal ?_)
    | (with_reducible refine NEXTK.ret ?_)
    | (with_reducible refine NEXTK.exit ?_)
    | (with_reducible refine SEQ.plain ?_)
    | (with_reducible refine hK _ _ ?_)
    | ((with_reducible refine AR.ok ?_ ?_); exact ⟨by first | omega | (dsimp only; omega), by first | omega | (dsimp only; omega)⟩)
    | (with_reducible refine AR.wr ?_)
    | ((with_reducible intro w3 e3); try have z3 := cutLe e3)
    | ((with_reducible intro h3); have h4 := Nat.le_of_lt h3; clear h4)))
  conv => whnf
  refine callM (g := 26) (by kernel_rfl) ⟨_, _, ⟨fun h => by have := (oL _ h).2; dsimp only at this; omega, trivial⟩, fun b hb h => h, markIntS_c lo _ _ _ _ _ _ (by repeat (first | exact ho | refine Own.e0 ?_ (by assumption))) hn (by omega) (by omega), fun r w6 e6 h => ?_⟩
  obtain ⟨rfl, o6⟩ := h
  repeat (any_goals (
    conv => whnf
    first
    | ((with_reducible refine BIF.dec ?_ ?_) <;> intro _)
    | ((with_reducible refine BIF.s ?_ ?_) <;> intro _)
    | (with_reducible refine NEXTK.normal ?_)
    | (with_reducible refine NEXTK.ret ?_)
    | (with_reducible refine NEXTK.exit ?_)
    | (with_reducible refine SEQ.plain ?_)
    | (with_reducible refine hK _ _ ?_)
    | ((with_reducible refine AR.ok ?_ ?_); exact ⟨by first | omega | (dsimp only; omega), by first | omega | (dsimp only; omega)⟩)
    | (with_reducible refine AR.wr ?_)
    | ((with_reducible intro w3 e3); try have z3 := cutLe e3)
    | ((with_reducible intro h3); have h4 := Nat.le_of_lt h3; clear h4)))
  intro hx
  exact ⟨_, rfl, hx, rfl, o6⟩
theorem heldScanJob_c (x : Job) (a : Option Addr) (n cp : Nat) (k : Int) (w : World) (hr : Row w a 1 (((List.range n).map (mkI k)).map encI)) (hm : n ≤ 4194304) (hk : 0 ≤ k ∧ k ≤ 1099511627776) :
    Calls Try.prog 12 #[.agg (encJob x a n cp).toArray, .int .i64 k] w fun e w' => e = .returned (.int .i64 (k + 1 * n)) ∧ E0 w w' := by
  refine enterK Non 12 Try.func12 rfl rfl rfl fun K hK => ?_
  repeat (any_goals (
    conv => whnf
    first
    | ((with_reducible refine callF (g := 27) ?_ ?_); kernel_rfl; refine ⟨_, heldIntS_c _ _ _ _ _ (by repeat (first | assumption | refine Row.e0 ?_ (by assumption))) hm hk, ?_⟩; intro w4 e4; have z4 := cutLe e4)
    | ((with_reducible refine BIF.s (fun h => absurd h ?_) (fun _ => ?_)); focus (first | (simp; done) | (simp; omega)))
    | ((with_reducible refine BIF.s (fun _ => ?_) (fun h => absurd h ?_)); rotate_left; focus (first | (simp; done) | (simp; omega)))
    | ((with_reducible refine BIF.dec ?_ ?_) <;> intro _)
    | ((with_reducible refine BIF.s ?_ ?_) <;> intro _)
    | (with_reducible refine NEXTK.normal ?_)
    | (with_reducible refine NEXTK.ret ?_)
    | (with_reducible refine NEXTK.exit ?_)
    | (with_reducible refine SEQ.plain ?_)
    | (with_reducible refine hK _ _ ?_)
    | ((with_reducible refine AR.ok ?_ ?_); exact ⟨by first | omega | (dsimp only; omega), by first | omega | (dsimp only; omega)⟩)
    | (with_reducible refine AR.wr ?_)
    | ((with_reducible intro w3 e3); try have z3 := cutLe e3)
    | ((with_reducible intro h3); have h4 := Nat.le_of_lt h3; clear h4)))
  intro hx
  exact ⟨rfl, hx⟩
def newN (t : Int) : Nat := if inB t 1 8 then t.toNat else 0
def newJ (t : Int) : Job := ⟨0, List.replicate (newN t) 0, 0, 0, 0⟩
theorem newN_le (t : Int) : newN t ≤ 8 := by
  unfold newN
  split
  · rename_i h; have := inB_iff.1 h; omega
  · omega
theorem newJ_len (t : Int) : (newJ t).fTiles.length = newN t := by simp [newJ]
theorem NewScan_c (t : Int) (w : World) :
    Calls Try.prog 9 #[.int .i64 t] w fun e w' => ∃ v, e = .returned v ∧ E0 w w' ∧ ∃ a n c, v = .tuple #[.agg (encJob (newJ t) a n c).toArray, .bool (inB t 1 8)] ∧ Own w' w.heap.size 3 1 (.slice a n c) ((newJ t).fTiles.map encI) := by
  refine enterK Non 11 Try.func9 rfl rfl rfl fun K hK => ?_
  cases hin : inB t 1 8 with
  | false =>
    have hj : newJ t = ⟨0, [], 0, 0, 0⟩ := by simp [newJ, newN, hin]
    repeat (any_goals (
      conv => whnf
      first
      | ((with_reducible refine callF (g := 24) ?_ ?_); kernel_rfl; refine ⟨_, within_c _ _ _ _, ?_⟩; intro w4 e4; have z4 := cutLe e4)
      | ((exfalso; clear hK; simp_all <;> omega))
      | ((with_reducible refine RUN.mk (v := .agg (encJob ⟨0, [], 0, 0, 0⟩ none 0 0).toArray) (fun _ => ?_) ?_); (focus kernel_rfl))
      | ((with_reducible refine BIF.dec ?_ ?_) <;> intro _)
      | ((with_reducible refine BIF.s ?_ ?_) <;> intro _)
      | (with_reducible refine NEXTK.normal ?_)
      | (with_reducible refine NEXTK.ret ?_)
      | (with_reducible refine NEXTK.exit ?_)
      | (with_reducible refine SEQ.plain ?_)
      | (with_reducible refine hK _ _ ?_)
      | ((with_reducible refine AR.ok ?_ ?_); exact ⟨by first | omega | (dsimp only; omega), by first | omega | (dsimp only; omega)⟩)
      | (with_reducible refine AR.wr ?_)
      | ((with_reducible intro w3 e3); try have z3 := cutLe e3)
      | ((with_reducible intro h3); have h4 := Nat.le_of_lt h3; clear h4)))
    intro hx
    rw [hj, hin]
    exact ⟨_, rfl, hx, none, 0, 0, rfl, Own.nil _ _ _ _⟩
  | true =>
    have hin2 := inB_iff.1 hin
    obtain ⟨k, rfl⟩ : ∃ k : Nat, t = k := ⟨t.toNat, by omega⟩
    have hj : newJ k = ⟨0, List.replicate k 0, 0, 0, 0⟩ := by simp [newJ, newN, hin]
    repeat (any_goals (
      conv => whnf
      first
      | ((with_reducible refine callF (g := 24) ?_ ?_); kernel_rfl; refine ⟨_, within_c _ _ _ _, ?_⟩; intro w4 e4; have z4 := cutLe e4)
      | ((exfalso; clear hK; simp_all <;> omega))
      | ((with_reducible refine BIF.dec ?_ ?_) <;> intro _)
      | ((with_reducible refine BIF.s ?_ ?_) <;> intro _)
      | (with_reducible refine NEXTK.normal ?_)
      | (with_reducible refine NEXTK.ret ?_)
      | (with_reducible refine NEXTK.exit ?_)
      | (with_reducible refine SEQ.plain ?_)
      | (with_reducible refine hK _ _ ?_)
      | ((with_reducible refine AR.ok ?_ ?_); exact ⟨by first | omega | (dsimp only; omega), by first | omega | (dsimp only; omega)⟩)
      | (with_reducible refine AR.wr ?_)
      | ((with_reducible intro w3 e3); try have z3 := cutLe e3)
      | ((with_reducible intro h3); have h4 := Nat.le_of_lt h3; clear h4)))
    conv => whnf
    refine mkS (n := k) (by exact elemI) (by omega) (fun w1 cp e1 o1 => ?_)
    replace o1 : Own w1 w4.heap.size 3 1 (.slice (some ⟨w4.heap.size, 0, none⟩) k cp) ((List.replicate k (0 : Int)).map encI) := by rw [List.map_replicate]; exact o1
    have oL1 := fun k h => o1.block (k := k) h
    repeat (any_goals (
      conv => whnf
      first
      | ((with_reducible intro w3 e3); have z3 := cutLe e3; replace o1 := o1.ext e3 (by first | exact fun _ _ h => h | (intro k hk h; have hh := oL1 k hk; simp only [bk] at h; omega)))
      | ((with_reducible refine RUN.mk (v := .agg (encJob ⟨0, [], 0, 0, 0⟩ (some ⟨w4.heap.size, 0, none⟩) k cp).toArray) (fun _ => ?_) ?_); (focus kernel_rfl))
      | ((with_reducible refine BIF.dec ?_ ?_) <;> intro _)
      | ((with_reducible refine BIF.s ?_ ?_) <;> intro _)
      | (with_reducible refine NEXTK.normal ?_)
      | (with_reducible refine NEXTK.ret ?_)
      | (with_reducible refine NEXTK.exit ?_)
      | (with_reducible refine SEQ.plain ?_)
      | (with_reducible refine hK _ _ ?_)
      | ((with_reducible refine AR.ok ?_ ?_); exact ⟨by first | omega | (dsimp only; omega), by first | omega | (dsimp only; omega)⟩)
      | (with_reducible refine AR.wr ?_)
      | ((with_reducible intro w3 e3); try have z3 := cutLe e3)
      | ((with_reducible intro h3); have h4 := Nat.le_of_lt h3; clear h4)))
    intro hx'
    rw [hj, hin]
    exact ⟨_, rfl, hx', _, _, _, rfl, o1.lo (by omega)⟩
theorem NewScanS_c (t : Int) (w : World) :
    Calls Try.prog 8 #[.int .i64 t] w fun e w' => ∃ v, e = .returned v ∧ E0 w w' ∧ ∃ a n c, v = .tuple #[.agg (encJob (newJ t) a n c).toArray, .bool (inB t 1 8)] ∧ Own w' w.heap.size 3 1 (.slice a n c) ((newJ t).fTiles.map encI) := by
  refine enterK Non 11 Try.func8 rfl rfl rfl fun K hK => ?_
  cases hin : inB t 1 8 with
  | false =>
    have hj : newJ t = ⟨0, [], 0, 0, 0⟩ := by simp [newJ, newN, hin]
    repeat (any_goals (
      conv => whnf
      first
      | ((with_reducible refine callF (g := 23) ?_ ?_); kernel_rfl; refine ⟨_, l1In_c _ _ _ _, ?_⟩; intro w4 e4; have z4 := cutLe e4)
      | ((exfalso; clear hK; simp_all <;> omega))
      | ((with_reducible refine RUN.mk (v := .agg (encJob ⟨0, [], 0, 0, 0⟩ none 0 0).toArray) (fun _ => ?_) ?_); (focus kernel_rfl))
      | ((with_reducible refine BIF.dec ?_ ?_) <;> intro _)
      | ((with_reducible refine BIF.s ?_ ?_) <;> intro _)
      | (with_reducible refine NEXTK.normal ?_)
      | (with_reducible refine NEXTK.ret ?_)
      | (with_reducible refine NEXTK.exit ?_)
      | (with_reducible refine SEQ.plain ?_)
      | (with_reducible refine hK _ _ ?_)
      | ((with_reducible refine AR.ok ?_ ?_); exact ⟨by first | omega | (dsimp only; omega), by first | omega | (dsimp only; omega)⟩)
      | (with_reducible refine AR.wr ?_)
      | ((with_reducible intro w3 e3); try have z3 := cutLe e3)
      | ((with_reducible intro h3); have h4 := Nat.le_of_lt h3; clear h4)))
    intro hx
    rw [hj, hin]
    exact ⟨_, rfl, hx, none, 0, 0, rfl, Own.nil _ _ _ _⟩
  | true =>
    have hin2 := inB_iff.1 hin
    obtain ⟨k, rfl⟩ : ∃ k : Nat, t = k := ⟨t.toNat, by omega⟩
    have hj : newJ k = ⟨0, List.replicate k 0, 0, 0, 0⟩ := by simp [newJ, newN, hin]
    repeat (any_goals (
      conv => whnf
      first
      | ((with_reducible refine callF (g := 23) ?_ ?_); kernel_rfl; refine ⟨_, l1In_c _ _ _ _, ?_⟩; intro w4 e4; have z4 := cutLe e4)
      | ((exfalso; clear hK; simp_all <;> omega))
      | ((with_reducible refine BIF.dec ?_ ?_) <;> intro _)
      | ((with_reducible refine BIF.s ?_ ?_) <;> intro _)
      | (with_reducible refine NEXTK.normal ?_)
      | (with_reducible refine NEXTK.ret ?_)
      | (with_reducible refine NEXTK.exit ?_)
      | (with_reducible refine SEQ.plain ?_)
      | (with_reducible refine hK _ _ ?_)
      | ((with_reducible refine AR.ok ?_ ?_); exact ⟨by first | omega | (dsimp only; omega), by first | omega | (dsimp only; omega)⟩)
      | (with_reducible refine AR.wr ?_)
      | ((with_reducible intro w3 e3); try have z3 := cutLe e3)
      | ((with_reducible intro h3); have h4 := Nat.le_of_lt h3; clear h4)))
    conv => whnf
    refine mkS (n := k) (by exact elemI) (by omega) (fun w1 cp e1 o1 => ?_)
    replace o1 : Own w1 w4.heap.size 3 1 (.slice (some ⟨w4.heap.size, 0, none⟩) k cp) ((List.replicate k (0 : Int)).map encI) := by rw [List.map_replicate]; exact o1
    have oL1 := fun k h => o1.block (k := k) h
    repeat (any_goals (
      conv => whnf
      first
      | ((with_reducible intro w3 e3); have z3 := cutLe e3; replace o1 := o1.ext e3 (by first | exact fun _ _ h => h | (intro k hk h; have hh := oL1 k hk; simp only [bk] at h; omega)))
      | ((with_reducible refine RUN.mk (v := .agg (encJob ⟨0, [], 0, 0, 0⟩ (some ⟨w4.heap.size, 0, none⟩) k cp).toArray) (fun _ => ?_) ?_); (focus kernel_rfl))
      | ((with_reducible refine BIF.dec ?_ ?_) <;> intro _)
      | ((with_reducible refine BIF.s ?_ ?_) <;> intro _)
      | (with_reducible refine NEXTK.normal ?_)
      | (with_reducible refine NEXTK.ret ?_)
      | (with_reducible refine NEXTK.exit ?_)
      | (with_reducible refine SEQ.plain ?_)
      | (with_reducible refine hK _ _ ?_)
      | ((with_reducible refine AR.ok ?_ ?_); exact ⟨by first | omega | (dsimp only; omega), by first | omega | (dsimp only; omega)⟩)
      | (with_reducible refine AR.wr ?_)
      | ((with_reducible intro w3 e3); try have z3 := cutLe e3)
      | ((with_reducible intro h3); have h4 := Nat.le_of_lt h3; clear h4)))
    intro hx'
    rw [hj, hin]
    exact ⟨_, rfl, hx', _, _, _, rfl, o1.lo (by omega)⟩

end Go.Proofs.Ytckflfckaobfnaa

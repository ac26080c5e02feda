/- DropOrder. -/
import Derived.Test.YtlhlbgnhnkfmgaaRows
import Derived.Test.YtlhlbgnhnkfmgaaOrders9
namespace Go.Proofs.Ytlhlbgnhnkfmgaa
open Go Go.X Go.Proofs Go.ChangeShapes Go.WideShapes Go.ChangeAt Go.RowKit
open Go.ChangeMaps (open_string shut_string)
set_option maxHeartbeats 1000000
set_option maxRecDepth 20000
set_option linter.unusedVariables false
set_option linter.unusedSimpArgs false
theorem DeleteOrd_c (lo : Nat) (a : Option Addr) (n c k : Nat) (xs : List Ord) (w : World) (i j : Int) (hi : i = k) (hj : j = k + 1) (ho : Own w lo 54 5 (.slice a n c) (xs.map encOrd)) (hn : xs.length = n) (hk : k < n) (hm : n ≤ 1048577) (hc : n ≤ c ∧ c < 9223372036854775808) :
    Calls Try.prog 33 #[.slice a n c, .int .i64 i, .int .i64 j] w fun e w' => ∃ r, e = .returned r ∧ Ext (fun b => (Value.slice a n c).ownBlock = some b) w w' ∧ Own w' lo 54 5 r ((xs.eraseIdx k).map encOrd) := by
  subst hi hj
  obtain ⟨g, rfl⟩ := ho.base (by omega)
  have hb : ∀ b, g = b → (Value.slice (some ⟨g, 0, none⟩) n c).ownBlock = some b := fun b h => by subst h; rfl
  refine enterK (fun b => (Value.slice (some ⟨g, 0, none⟩) n c).ownBlock = some b) 33 Try.func33 rfl rfl rfl fun K hK => ?_
  repeat (any_goals (
    conv => whnf
    first
    | ((with_reducible refine OBL.mk ?_ (fun _ => ?_)); omega)
    | ((with_reducible refine DRAW.plan (id := 5) (.one 0 (.one 1 (.one 2 (.one 3 (.one 4 (.one 5 (.start (.alt 6 (.one 7 .done) .stop)))))))) ?_ ?_ ?_ ?_); kernel_rfl; kernel_rfl; kernel_rfl)
    | (with_reducible refine And.intro ?_ ?_)
    | (exact True.intro)
    | ((with_reducible refine BIF.beq ?_ ?_) <;> intro _)
    | ((exfalso; omega))
    | ((with_reducible refine BIF.dec ?_ ?_) <;> intro _)
    | ((with_reducible refine BIF.s ?_ ?_) <;> intro _)
    | (with_reducible refine NEXTK.normal ?_)
    | (with_reducible refine NEXTK.ret ?_)
    | (with_reducible refine NEXTK.exit ?_)
    | (with_reducible refine SEQ.plain ?_)
    | (with_reducible refine hK _ _ ?_)
    | ((with_reducible refine RUNL.agg (fun _ => ?_) ?_); (focus kernel_rfl))
    | (with_reducible refine RUNL.run ?_)
    | ((with_reducible refine AR.ok ?_ ?_); exact ⟨by first | omega | (dsimp only; omega), by first | omega | (dsimp only; omega)⟩)
    | (with_reducible refine AR.wr ?_)
    | ((with_reducible intro w3 e3); try have z3 := cutLe e3)
    | ((with_reducible intro h3); have h4 := Nat.le_of_lt h3; clear h4)))
  conv => whnf
  have h3 := ho.e0 e3
  have hcut := h3.cut k (by omega)
  obtain ⟨b, hx, hrow⟩ : ∃ b : Addr, Value.slice (if (c : Int).toNat = ((k : Int) + 1).toNat then some ⟨g, 0, none⟩ else Option.map (fun x : Addr => x.add (((k : Int) + 1).toNat * (4 + 1))) (some ⟨g, 0, none⟩)) ((n : Int).toNat - ((k : Int) + 1).toNat) ((c : Int).toNat - ((k : Int) + 1).toNat) = .slice (some b) (n - (k + 1)) (c - (k + 1)) ∧ Row w3 (some b) 5 ((xs.drop (k + 1)).map encOrd) := by
    by_cases h : k + 1 < c
    · refine ⟨⟨g, (k + 1) * 5, none⟩, cutAt g c (k + 1) n 5 h _ (by omega), ?_⟩
      have := h3.row.1.sub (k + 1) n (n + 1) (by omega)
      rw [if_neg (by omega)] at this
      have e1 : ((n : Int).toNat - (k + 1 : Int).toNat) = (xs.drop (k + 1)).length := by simp; omega
      rw [e1, show ((k + 1 : Int).toNat) = k + 1 from by omega, List.take_length] at this
      simpa [Addr.add_lit] using this
    · refine ⟨⟨g, 0, none⟩, ?_, ?_⟩
      · rw [if_pos (by omega)]
        congr 1 <;> omega
      · have : xs.drop (k + 1) = [] := List.drop_eq_nil_of_le (by omega)
        rw [this]; exact Row.nil _ _ _
  refine apFit elemOrd (g := g) (b := b) (n := k) (m := n - (k + 1)) (cp := c) (cc := c - (k + 1)) (cut0 g c k 5) hx (ls := (xs.take k).map encOrd) (by rw [List.map_take]; exact hcut) hrow (by simp; omega) (by intro l hl; obtain ⟨x, -, rfl⟩ := List.mem_map.1 hl; rfl) (by omega) (fun b _ h => hb b h) trivial (fun w4 e4 o4 => ?_)
  have e5 : k + (n - (k + 1)) = n - 1 := by omega
  rw [e5] at o4 ⊢
  replace o4 : Own w4 lo 54 5 (.slice (some ⟨g, 0, none⟩) (n - 1) c) ((xs.eraseIdx k).map encOrd) := by
    rw [List.eraseIdx_eq_take_drop_succ, List.map_append]; exact o4
  repeat (any_goals (
    conv => whnf
    first
    | ((with_reducible refine OBL.mk ?_ (fun _ => ?_)); omega)
    | ((with_reducible refine BIF.dec ?_ ?_) <;> intro _)
    | ((with_reducible refine BIF.s ?_ ?_) <;> intro _)
    | (with_reducible refine NEXTK.normal ?_)
    | (with_reducible refine NEXTK.ret ?_)
    | (with_reducible refine NEXTK.exit ?_)
    | (with_reducible refine SEQ.plain ?_)
    | (with_reducible refine hK _ _ ?_)
    | ((with_reducible refine RUNL.agg (fun _ => ?_) ?_); (focus kernel_rfl))
    | (with_reducible refine RUNL.run ?_)
    | ((with_reducible refine AR.ok ?_ ?_); exact ⟨by first | omega | (dsimp only; omega), by first | omega | (dsimp only; omega)⟩)
    | (with_reducible refine AR.wr ?_)
    | ((with_reducible intro w3 e3); try have z3 := cutLe e3)
    | ((with_reducible intro h3); have h4 := Nat.le_of_lt h3; clear h4)))
  conv => whnf
  refine clS elemOrd rfl (n := n - 1) (cp := c) o4 (fun _ => ?_) (by omega) (fun b _ h => h) trivial (fun w5 e5 o5 => ?_)
  · rw [if_neg (by omega)]
    congr 2
  repeat (any_goals (
    conv => whnf
    first
    | ((with_reducible refine BIF.dec ?_ ?_) <;> intro _)
    | ((with_reducible refine BIF.s ?_ ?_) <;> intro _)
    | (with_reducible refine NEXTK.normal ?_)
    | (with_reducible refine NEXTK.ret ?_)
    | (with_reducible refine NEXTK.exit ?_)
    | (with_reducible refine SEQ.plain ?_)
    | (with_reducible refine hK _ _ ?_)
    | ((with_reducible refine RUNL.agg (fun _ => ?_) ?_); (focus kernel_rfl))
    | (with_reducible refine RUNL.run ?_)
    | ((with_reducible refine AR.ok ?_ ?_); exact ⟨by first | omega | (dsimp only; omega), by first | omega | (dsimp only; omega)⟩)
    | (with_reducible refine AR.wr ?_)
    | ((with_reducible intro w3 e3); try have z3 := cutLe e3)
    | ((with_reducible intro h3); have h4 := Nat.le_of_lt h3; clear h4)))
  intro hx'
  exact ⟨_, rfl, hx', o5⟩
def dropP (xs : List Ord) (id : Int) : List Ord × Bool := if waitAt xs id then (xs.eraseIdx (idAt xs id).toNat, true) else ([], false)
theorem dropP_bad {xs : List Ord} {id : Int} (h : waitAt xs id = false) : dropP xs id = ([], false) := by simp [dropP, h]
theorem dropP_good {xs : List Ord} {id : Int} {k : Nat} (h : waitAt xs id = true) (hk : idAt xs id = k) : dropP xs id = (xs.eraseIdx k, true) := by simp [dropP, h, hk]
theorem dropP_len (xs : List Ord) (id : Int) : (dropP xs id).1.length ≤ xs.length := by
  unfold dropP
  split
  · have := List.length_eraseIdx_le xs (idAt xs id).toNat
    simpa using this
  · simp
theorem DropOrder_c (a : Option Addr) (n c : Nat) (xs : List Ord) (id : Int) (w : World) (hr : Row w a 5 (xs.map encOrd)) (hn : xs.length = n) (hm : n ≤ 1048577) :
    Calls Try.prog 10 #[.slice a n c, .int .i64 id] w fun e w' => ∃ r, e = .returned r ∧ E0 w w' ∧ ∃ v, r = .tuple #[v, .bool (dropP xs id).2] ∧ Own w' w.heap.size 54 5 v ((dropP xs id).1.map encOrd) := by
  refine enterK Non 22 Try.func10 rfl rfl rfl fun K hK => ?_
  cases hw : waitAt xs id with
  | false =>
    have hf := dropP_bad hw
    repeat (any_goals (
      conv => whnf
      first
      | ((with_reducible refine callF (g := 32) ?_ ?_); kernel_rfl; refine ⟨_, waitsAt_c _ _ _ xs id _ (by repeat (first | assumption | refine Row.e0 ?_ (by assumption))) hn (by omega), ?_⟩; intro w4 e4; have z4 := cutLe e4)
      | ((exfalso; simp_all; done))
      | ((with_reducible refine BIF.dec ?_ ?_) <;> intro _)
      | ((with_reducible refine BIF.s ?_ ?_) <;> intro _)
      | (with_reducible refine NEXTK.normal ?_)
      | (with_reducible refine NEXTK.ret ?_)
      | (with_reducible refine NEXTK.exit ?_)
      | (with_reducible refine SEQ.plain ?_)
      | (with_reducible refine hK _ _ ?_)
      | ((with_reducible refine RUNL.agg (fun _ => ?_) ?_); (focus kernel_rfl))
      | (with_reducible refine RUNL.run ?_)
      | ((with_reducible refine AR.ok ?_ ?_); exact ⟨by first | omega | (dsimp only; omega), by first | omega | (dsimp only; omega)⟩)
      | (with_reducible refine AR.wr ?_)
      | ((with_reducible intro w3 e3); try have z3 := cutLe e3)
      | ((with_reducible intro h3); have h4 := Nat.le_of_lt h3; clear h4)))
    intro hx'
    rw [hf]
    exact ⟨_, rfl, hx', _, rfl, Own.nil _ _ _ _⟩
  | true =>
    rcases idAt_spec xs id with hi | ⟨k, x, hi, hk, hx, hid⟩
    · rw [waitAt_bad (.inr hi)] at hw; cases hw
    · have hf := dropP_good hw hi
      repeat (any_goals (
        conv => whnf
        first
        | ((with_reducible refine callF (g := 32) ?_ ?_); kernel_rfl; refine ⟨_, waitsAt_c _ _ _ xs id _ (by repeat (first | assumption | refine Row.e0 ?_ (by assumption))) hn (by omega), ?_⟩; intro w4 e4; have z4 := cutLe e4)
        | ((exfalso; simp_all; done))
        | ((with_reducible refine callY (g := 29) ?_ ?_); kernel_rfl; refine ⟨_, fun x => CloneOrd_c _ _ _ xs _ (hr.ext x (mAddr_Non _)) hn (by omega), ?_⟩; intro r5 w5 e5 oC; have z5 := cutLe e5; have oL := fun k h => oC.block (k := k) h; obtain ⟨b5, d5, rfl, q5, p5⟩ := oC.rowx; replace oC := oC.lo (lo' := w.heap.size) (by omega); try replace oB := oB.e0 e5)
        | ((with_reducible refine BIF.dec ?_ ?_) <;> intro _)
        | ((with_reducible refine BIF.s ?_ ?_) <;> intro _)
        | (with_reducible refine NEXTK.normal ?_)
        | (with_reducible refine NEXTK.ret ?_)
        | (with_reducible refine NEXTK.exit ?_)
        | (with_reducible refine SEQ.plain ?_)
        | (with_reducible refine hK _ _ ?_)
        | ((with_reducible refine RUNL.agg (fun _ => ?_) ?_); (focus kernel_rfl))
        | (with_reducible refine RUNL.run ?_)
        | ((with_reducible refine AR.ok ?_ ?_); exact ⟨by first | omega | (dsimp only; omega), by first | omega | (dsimp only; omega)⟩)
        | (with_reducible refine AR.wr ?_)
        | ((with_reducible intro w3 e3); try have z3 := cutLe e3)
        | ((with_reducible intro h3); have h4 := Nat.le_of_lt h3; clear h4)))
      conv => whnf
      refine callM (g := 33) (by kernel_rfl) ⟨_, _, trivial, fun b hb h => oC.fresh (Nat.le_refl _) b hb h, DeleteOrd_c _ _ _ _ k xs _ _ _ hi (by omega) oC rfl hk (by omega) (by omega), fun r w6 e6 o6 => ?_⟩
      obtain ⟨b6, d6, rfl, q6, p6⟩ := o6.rowx
      repeat (any_goals (
        conv => whnf
        first
        | ((with_reducible refine BIF.dec ?_ ?_) <;> intro _)
        | ((with_reducible refine BIF.s ?_ ?_) <;> intro _)
        | (with_reducible refine NEXTK.normal ?_)
        | (with_reducible refine NEXTK.ret ?_)
        | (with_reducible refine NEXTK.exit ?_)
        | (with_reducible refine SEQ.plain ?_)
        | (with_reducible refine hK _ _ ?_)
        | ((with_reducible refine RUNL.agg (fun _ => ?_) ?_); (focus kernel_rfl))
        | (with_reducible refine RUNL.run ?_)
        | ((with_reducible refine AR.ok ?_ ?_); exact ⟨by first | omega | (dsimp only; omega), by first | omega | (dsimp only; omega)⟩)
        | (with_reducible refine AR.wr ?_)
        | ((with_reducible intro w3 e3); try have z3 := cutLe e3)
        | ((with_reducible intro h3); have h4 := Nat.le_of_lt h3; clear h4)))
      intro hx'
      rw [hf]
      exact ⟨_, rfl, hx', _, rfl, (by clear hx'; repeat (first | exact o6 | exact o6.lo (by omega) | refine Own.e0 ?_ (by assumption)))⟩

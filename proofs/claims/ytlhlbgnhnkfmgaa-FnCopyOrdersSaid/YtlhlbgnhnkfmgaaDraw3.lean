/- The draws of arguments. -/
import Derived.Test.YtlhlbgnhnkfmgaaRows
import Derived.Test.YtlhlbgnhnkfmgaaDraw2
namespace Go.Proofs.Ytlhlbgnhnkfmgaa
open Go Go.X Go.Proofs Go.ChangeShapes Go.WideShapes Go.ChangeAt Go.RowKit
open Go.ChangeMaps (open_string shut_string)
set_option maxHeartbeats 1000000
set_option maxRecDepth 20000
set_option linter.unusedVariables false
set_option linter.unusedSimpArgs false
def DLO (w' : World) (lo : Nat) (s : Value) (xs : List Ord) : Prop := xs.length ≤ 13 ∧ (∀ x ∈ xs, fitOrd x) ∧ Own w' lo 54 5 s (xs.map encOrd)
theorem DrawPriceOf_c (a : Option Addr) (n c : Nat) (bs : List Int) (w : World) (hr : Row w a 1 (bs.map encB)) (hn : bs.length = n) (hsm : n ≤ 65536) (hby : ∀ y ∈ bs, 0 ≤ y ∧ y ≤ 255) :
    Calls Try.prog 17 #[.slice a n c] w fun e w' => ∃ v, e = .returned v ∧ E0 w w' ∧ ∃ s xs i1, v = .tuple #[s, .int .i64 i1] ∧ I64 i1 ∧ DLO w' w.heap.size s xs := by
  refine enterKF Non 15 Try.func17 rfl rfl rfl fun K hK => ?_
  repeat (any_goals (
    conv => whnf
    first
    | ((with_reducible refine RUNL.cur (fun _ => ?_) ?_); (focus kernel_rfl))
    | ((with_reducible intro w3 e3); have s3 := e3.size; have z3 := cutLe e3.ext; have hC := Cur.new e3 (by repeat (first | assumption | refine Row.e0 ?_ (by assumption))) hn hsm hby; have h0 := hC)
    | ((with_reducible intro w3 e3); have z3 := cutLe e3; replace hC := (by first | exact hC.e0 e3 | exact hC.past h0 e3 (fun j hj e => by simp only [bk] at e; omega)); (try replace hown := (by first | exact hown.e0 e3 | exact hown.ext e3 (by intro kk hkk h; have hh := (hown.block hkk).1; simp only [bk] at h; omega))))
    | ((with_reducible refine callM (g := 24) ?_ ?_); kernel_rfl; refine ⟨onB _, _, (by repeat (first | exact trivial | (refine ⟨?_, ?_⟩; (focus (show ¬ _ = _; dsimp only; omega))))), (by first | exact fun _ _ hj => hj | (intro j hj hjb; unfold onB at hjb; exfalso; omega)), copyOrders_c _ _ _ _ hC (by omega), ?_⟩; intro r5 w5 e5 h5; have z5 := cutLe e5; obtain ⟨hr5, hC⟩ := h5; (try replace hown := hown.cur h0 (by omega) e5); (try replace oB := oB.cur h0 (by omega) e5); obtain ⟨xs5, hl5, hf5, o5⟩ := hr5; obtain ⟨a5, c5, rfl, q5, p5⟩ := o5.rowx; have hown := o5)
    | ((with_reducible refine callM (g := 37) ?_ ?_); kernel_rfl; refine ⟨onB _, _, (by repeat (first | exact trivial | (refine ⟨?_, ?_⟩; (focus (show ¬ _ = _; dsimp only; omega))))), (by first | exact fun _ _ hj => hj | (intro j hj hjb; unfold onB at hjb; exfalso; omega)), copyOrderId_c _ _ _ _ _ _ xs5 _ hC (by omega) hown.row.1 rfl (by omega) (ownOff hown (by omega)) hf5, ?_⟩; intro r5 w5 e5 h5; have z5 := cutLe e5; obtain ⟨hr5, hC⟩ := h5; (try replace hown := hown.cur h0 (by omega) e5); (try replace oB := oB.cur h0 (by omega) e5); obtain ⟨x5, rfl, hx5⟩ := hr5)
    | ((with_reducible refine BIF.dec ?_ ?_) <;> intro _)
    | ((with_reducible refine BIF.s ?_ ?_) <;> intro _)
    | (with_reducible refine NEXTK.normal ?_)
    | (with_reducible refine NEXTK.ret ?_)
    | (with_reducible refine NEXTK.exit ?_)
    | (with_reducible refine SEQ.plain ?_)
    | (with_reducible refine hK _ _ ?_)
    | ((with_reducible refine RUNL.agg (fun _ => ?_) ?_); (focus kernel_rfl))
    | (with_reducible refine RUNL.run ?_)
    | ((with_reducible refine AR.ok ?_ ?_); exact ⟨by first | omega | (dsimp only; omega), by first | omega | (dsimp only; omega)⟩)
    | (with_reducible refine AR.wr ?_)
    | ((with_reducible intro w3 e3); try have z3 := cutLe e3)
    | ((with_reducible intro h3); have h4 := Nat.le_of_lt h3; clear h4)))
  all_goals
    intro hx
    exact ⟨_, rfl, hx, _, xs5, _, rfl, hx5, hl5, hf5, hown.lo (by omega)⟩
theorem DrawOrdersOf_c (a : Option Addr) (n c : Nat) (bs : List Int) (w : World) (hr : Row w a 1 (bs.map encB)) (hn : bs.length = n) (hsm : n ≤ 65536) (hby : ∀ y ∈ bs, 0 ≤ y ∧ y ≤ 255) :
    Calls Try.prog 19 #[.slice a n c] w fun e w' => ∃ v, e = .returned v ∧ E0 w w' ∧ ∃ s xs i1, v = .tuple #[s, .int .i64 i1] ∧ I64 i1 ∧ DLO w' w.heap.size s xs := by
  refine enterKF Non 18 Try.func19 rfl rfl rfl fun K hK => ?_
  repeat (any_goals (
    conv => whnf
    first
    | ((with_reducible refine RUNL.cur (fun _ => ?_) ?_); (focus kernel_rfl))
    | ((with_reducible intro w3 e3); have s3 := e3.size; have z3 := cutLe e3.ext; have hC := Cur.new e3 (by repeat (first | assumption | refine Row.e0 ?_ (by assumption))) hn hsm hby; have h0 := hC)
    | ((with_reducible intro w3 e3); have z3 := cutLe e3; replace hC := (by first | exact hC.e0 e3 | exact hC.past h0 e3 (fun j hj e => by simp only [bk] at e; omega)); (try replace hown := (by first | exact hown.e0 e3 | exact hown.ext e3 (by intro kk hkk h; have hh := (hown.block hkk).1; simp only [bk] at h; omega))))
    | ((with_reducible refine callM (g := 24) ?_ ?_); kernel_rfl; refine ⟨onB _, _, (by repeat (first | exact trivial | (refine ⟨?_, ?_⟩; (focus (show ¬ _ = _; dsimp only; omega))))), (by first | exact fun _ _ hj => hj | (intro j hj hjb; unfold onB at hjb; exfalso; omega)), copyOrders_c _ _ _ _ hC (by omega), ?_⟩; intro r5 w5 e5 h5; have z5 := cutLe e5; obtain ⟨hr5, hC⟩ := h5; (try replace hown := hown.cur h0 (by omega) e5); (try replace oB := oB.cur h0 (by omega) e5); obtain ⟨xs5, hl5, hf5, o5⟩ := hr5; obtain ⟨a5, c5, rfl, q5, p5⟩ := o5.rowx; have hown := o5)
    | ((with_reducible refine bsI ?_ ?_ ?_ ?_ ?_); (focus rfl); (focus rfl); (focus omega); (focus rfl); intro w9 e9 oB; have z9 := cutLe e9; replace hC := hC.e0 e9; (try replace hown := hown.e0 e9))
    | ((with_reducible refine callM (g := 27) ?_ ?_); kernel_rfl; refine ⟨onB _, _, (by repeat (first | exact trivial | (refine ⟨?_, ?_⟩; (focus (show ¬ _ = _; dsimp only; omega))))), (by first | exact fun _ _ hj => hj | (intro j hj hjb; unfold onB at hjb; exfalso; omega)), pick_c _ _ _ _ _ hC (by omega), ?_⟩; intro r5 w5 e5 h5; have z5 := cutLe e5; obtain ⟨hr5, hC⟩ := h5; (try replace hown := hown.cur h0 (by omega) e5); (try replace oB := oB.cur h0 (by omega) e5); obtain ⟨x5, rfl, hx5⟩ := hr5)
    | ((with_reducible refine OBL.mk (o := ((12 : Int) ≠ 0)) ?_ (fun _ => ?_)); (focus decide); have td5 := tdiv_b (x := x5) (m := 12) (by omega) (by omega))
    | ((with_reducible refine OBL.mk ?_ (fun _ => ?_)); omega)
    | ((with_reducible refine callM (g := 28) ?_ ?_); kernel_rfl; refine ⟨onB _, _, (by repeat (first | exact trivial | (refine ⟨?_, ?_⟩; (focus (show ¬ _ = _; dsimp only; omega))))), (by first | exact fun _ _ hj => hj | (intro j hj hjb; unfold onB at hjb; exfalso; omega)), amongP_c _ _ _ _ _ _ (fun r => -1 ≤ r ∧ r ≤ 4001) _ _ _ _ hC (by omega) oB.row (by omega) (notOn (by omega)) (by intro y hy; unfold intsOf at hy; simp at hy; omega), ?_⟩; intro r5 w5 e5 h5; have z5 := cutLe e5; obtain ⟨hr5, hC⟩ := h5; (try replace hown := hown.cur h0 (by omega) e5); (try replace oB := oB.cur h0 (by omega) e5); obtain ⟨x5, rfl, hx5⟩ := hr5)
    | ((with_reducible refine BIF.dec ?_ ?_) <;> intro _)
    | ((with_reducible refine BIF.s ?_ ?_) <;> intro _)
    | (with_reducible refine NEXTK.normal ?_)
    | (with_reducible refine NEXTK.ret ?_)
    | (with_reducible refine NEXTK.exit ?_)
    | (with_reducible refine SEQ.plain ?_)
    | (with_reducible refine hK _ _ ?_)
    | ((with_reducible refine RUNL.agg (fun _ => ?_) ?_); (focus kernel_rfl))
    | (with_reducible refine RUNL.run ?_)
    | ((with_reducible refine AR.ok ?_ ?_); exact ⟨by first | omega | (dsimp only; omega), by first | omega | (dsimp only; omega)⟩)
    | (with_reducible refine AR.wr ?_)
    | ((with_reducible intro w3 e3); try have z3 := cutLe e3)
    | ((with_reducible intro h3); have h4 := Nat.le_of_lt h3; clear h4)))
  all_goals
    intro hx
    exact ⟨_, rfl, hx, _, xs5, _, rfl, by unfold I64; omega, hl5, hf5, hown.lo (by omega)⟩
theorem DrawFinishOrder_c (a : Option Addr) (n c : Nat) (bs : List Int) (w : World) (hr : Row w a 1 (bs.map encB)) (hn : bs.length = n) (hsm : n ≤ 65536) (hby : ∀ y ∈ bs, 0 ≤ y ∧ y ≤ 255) :
    Calls Try.prog 14 #[.slice a n c] w fun e w' => ∃ v, e = .returned v ∧ E0 w w' ∧ ∃ s xs i1 i2, v = .tuple #[s, .int .i64 i1, .int .i64 i2] ∧ I64 i1 ∧ I64 i2 ∧ DLO w' w.heap.size s xs := by
  refine enterKF Non 39 Try.func14 rfl rfl rfl fun K hK => ?_
  repeat (any_goals (
    conv => whnf
    first
    | ((with_reducible refine RUNL.cur (fun _ => ?_) ?_); (focus kernel_rfl))
    | ((with_reducible intro w3 e3); have s3 := e3.size; have z3 := cutLe e3.ext; have hC := Cur.new e3 (by repeat (first | assumption | refine Row.e0 ?_ (by assumption))) hn hsm hby; have h0 := hC)
    | ((with_reducible intro w3 e3); have z3 := cutLe e3; replace hC := (by first | exact hC.e0 e3 | exact hC.past h0 e3 (fun j hj e => by simp only [bk] at e; omega)); (try replace hown := (by first | exact hown.e0 e3 | exact hown.ext e3 (by intro kk hkk h; have hh := (hown.block hkk).1; simp only [bk] at h; omega))))
    | ((with_reducible refine callM (g := 24) ?_ ?_); kernel_rfl; refine ⟨onB _, _, (by repeat (first | exact trivial | (refine ⟨?_, ?_⟩; (focus (show ¬ _ = _; dsimp only; omega))))), (by first | exact fun _ _ hj => hj | (intro j hj hjb; unfold onB at hjb; exfalso; omega)), copyOrders_c _ _ _ _ hC (by omega), ?_⟩; intro r5 w5 e5 h5; have z5 := cutLe e5; obtain ⟨hr5, hC⟩ := h5; (try replace hown := hown.cur h0 (by omega) e5); (try replace oB := oB.cur h0 (by omega) e5); obtain ⟨xs5, hl5, hf5, o5⟩ := hr5; obtain ⟨a5, c5, rfl, q5, p5⟩ := o5.rowx; have hown := o5)
    | ((with_reducible refine callM (g := 25) ?_ ?_); kernel_rfl; refine ⟨onB _, _, (by repeat (first | exact trivial | (refine ⟨?_, ?_⟩; (focus (show ¬ _ = _; dsimp only; omega))))), (by first | exact fun _ _ hj => hj | (intro j hj hjb; unfold onB at hjb; exfalso; omega)), day28_c _ _ _ _ hC (by omega), ?_⟩; intro r5 w5 e5 h5; have z5 := cutLe e5; obtain ⟨hr5, hC⟩ := h5; (try replace hown := hown.cur h0 (by omega) e5); (try replace oB := oB.cur h0 (by omega) e5); obtain ⟨x5, rfl, hx5⟩ := hr5)
    | ((with_reducible refine callM (g := 26) ?_ ?_); kernel_rfl; refine ⟨onB _, _, (by repeat (first | exact trivial | (refine ⟨?_, ?_⟩; (focus (show ¬ _ = _; dsimp only; omega))))), (by first | exact fun _ _ hj => hj | (intro j hj hjb; unfold onB at hjb; exfalso; omega)), one_c _ _ _ _ _ hC (by omega), ?_⟩; intro r5 w5 e5 h5; have z5 := cutLe e5; obtain ⟨hr5, hC⟩ := h5; (try replace hown := hown.cur h0 (by omega) e5); (try replace oB := oB.cur h0 (by omega) e5); obtain ⟨x5, rfl, hx5⟩ := hr5)
    | ((with_reducible refine DRAW.plan (id := 6) (.one 0 (.one 1 (.one 2 (.one 3 (.one 4 (.one 6 (.start (.alt 5 (.start (.alt 7 (.one 8 (.one 9 .done)) .stop)) (.alt 7 (.start (.alt 5 (.one 8 (.one 9 .done)) .stop)) .stop))))))))) ?_ ?_ ?_ ?_); kernel_rfl; kernel_rfl; kernel_rfl)
    | (with_reducible refine And.intro ?_ ?_)
    | (exact True.intro)
    | ((with_reducible refine OBL.mk ?_ (fun _ => ?_)); (have his := hown.row.1.isSome (by simp; omega)); exact ⟨by omega, by omega, his⟩)
    | ((with_reducible refine ELD.atNow (enc := encOrd) (xs := xs5) (xs5.length - 1) hown.row.1 ?_ ?_ (fun y hy => ?_)); (focus omega); (focus omega); have hfy := hf5 y (List.mem_of_getElem? hy))
    | ((with_reducible refine AR.ok ?_ ?_); exact ⟨by first | omega | (dsimp only; omega), by first | omega | (dsimp only; omega)⟩)
    | ((with_reducible refine AR.fit (fun r hr => ?_)))
    | ((with_reducible refine callM (g := 27) ?_ ?_); kernel_rfl; refine ⟨onB _, _, (by repeat (first | exact trivial | (refine ⟨?_, ?_⟩; (focus (show ¬ _ = _; dsimp only; omega))))), (by first | exact fun _ _ hj => hj | (intro j hj hjb; unfold onB at hjb; exfalso; omega)), pick_c _ _ _ _ _ hC (by omega), ?_⟩; intro r5 w5 e5 h5; have z5 := cutLe e5; obtain ⟨hr5, hC⟩ := h5; (try replace hown := hown.cur h0 (by omega) e5); (try replace oB := oB.cur h0 (by omega) e5); obtain ⟨x5, rfl, hx5⟩ := hr5)
    | ((with_reducible refine callM (g := 37) ?_ ?_); kernel_rfl; refine ⟨onB _, _, (by repeat (first | exact trivial | (refine ⟨?_, ?_⟩; (focus (show ¬ _ = _; dsimp only; omega))))), (by first | exact fun _ _ hj => hj | (intro j hj hjb; unfold onB at hjb; exfalso; omega)), copyOrderId_c _ _ _ _ _ _ xs5 _ hC (by omega) hown.row.1 rfl (by omega) (ownOff hown (by omega)) hf5, ?_⟩; intro r5 w5 e5 h5; have z5 := cutLe e5; obtain ⟨hr5, hC⟩ := h5; (try replace hown := hown.cur h0 (by omega) e5); (try replace oB := oB.cur h0 (by omega) e5); obtain ⟨x5, rfl, hx5⟩ := hr5)
    | ((with_reducible refine BIF.dec ?_ ?_) <;> intro _)
    | ((with_reducible refine BIF.s ?_ ?_) <;> intro _)
    | (with_reducible refine NEXTK.normal ?_)
    | (with_reducible refine NEXTK.ret ?_)
    | (with_reducible refine NEXTK.exit ?_)
    | (with_reducible refine SEQ.plain ?_)
    | (with_reducible refine hK _ _ ?_)
    | ((with_reducible refine RUNL.agg (fun _ => ?_) ?_); (focus kernel_rfl))
    | (with_reducible refine RUNL.run ?_)
    | ((with_reducible refine AR.ok ?_ ?_); exact ⟨by first | omega | (dsimp only; omega), by first | omega | (dsimp only; omega)⟩)
    | (with_reducible refine AR.wr ?_)
    | ((with_reducible intro w3 e3); try have z3 := cutLe e3)
    | ((with_reducible intro h3); have h4 := Nat.le_of_lt h3; clear h4)))
  all_goals
    intro hx
    exact ⟨_, rfl, hx, _, xs5, _, _, rfl, hx5, by first | assumption | (unfold I64; omega), hl5, hf5, hown.lo (by omega)⟩
theorem DrawPlaceOrder_c (a : Option Addr) (n c : Nat) (bs : List Int) (w : World) (hr : Row w a 1 (bs.map encB)) (hn : bs.length = n) (hsm : n ≤ 65536) (hby : ∀ y ∈ bs, 0 ≤ y ∧ y ≤ 255) :
    Calls Try.prog 5 #[.slice a n c] w fun e w' => ∃ v, e = .returned v ∧ E0 w w' ∧ ∃ s xs i1 i2 i3, v = .tuple #[s, .int .i64 i1, .int .i64 i2, .int .i64 i3] ∧ I64 i1 ∧ I64 i2 ∧ I64 i3 ∧ DLO w' w.heap.size s xs := by
  refine enterKF Non 53 Try.func5 rfl rfl rfl fun K hK => ?_
  repeat (any_goals (
    conv => whnf
    first
    | ((with_reducible refine RUNL.cur (fun _ => ?_) ?_); (focus kernel_rfl))
    | ((with_reducible intro w3 e3); have s3 := e3.size; have z3 := cutLe e3.ext; have hC := Cur.new e3 (by repeat (first | assumption | refine Row.e0 ?_ (by assumption))) hn hsm hby; have h0 := hC)
    | ((with_reducible intro w3 e3); have z3 := cutLe e3; replace hC := (by first | exact hC.e0 e3 | exact hC.past h0 e3 (fun j hj e => by simp only [bk] at e; omega)); (try replace hown := (by first | exact hown.e0 e3 | exact hown.ext e3 (by intro kk hkk h; have hh := (hown.block hkk).1; simp only [bk] at h; omega))))
    | ((with_reducible refine callM (g := 24) ?_ ?_); kernel_rfl; refine ⟨onB _, _, (by repeat (first | exact trivial | (refine ⟨?_, ?_⟩; (focus (show ¬ _ = _; dsimp only; omega))))), (by first | exact fun _ _ hj => hj | (intro j hj hjb; unfold onB at hjb; exfalso; omega)), copyOrders_c _ _ _ _ hC (by omega), ?_⟩; intro r5 w5 e5 h5; have z5 := cutLe e5; obtain ⟨hr5, hC⟩ := h5; (try replace hown := hown.cur h0 (by omega) e5); (try replace oB := oB.cur h0 (by omega) e5); obtain ⟨xs5, hl5, hf5, o5⟩ := hr5; obtain ⟨a5, c5, rfl, q5, p5⟩ := o5.rowx; have hown := o5)
    | ((with_reducible refine callM (g := 25) ?_ ?_); kernel_rfl; refine ⟨onB _, _, (by repeat (first | exact trivial | (refine ⟨?_, ?_⟩; (focus (show ¬ _ = _; dsimp only; omega))))), (by first | exact fun _ _ hj => hj | (intro j hj hjb; unfold onB at hjb; exfalso; omega)), day28_c _ _ _ _ hC (by omega), ?_⟩; intro r5 w5 e5 h5; have z5 := cutLe e5; obtain ⟨hr5, hC⟩ := h5; (try replace hown := hown.cur h0 (by omega) e5); (try replace oB := oB.cur h0 (by omega) e5); obtain ⟨x5, rfl, hx5⟩ := hr5)
    | ((with_reducible refine callM (g := 26) ?_ ?_); kernel_rfl; refine ⟨onB _, _, (by repeat (first | exact trivial | (refine ⟨?_, ?_⟩; (focus (show ¬ _ = _; dsimp only; omega))))), (by first | exact fun _ _ hj => hj | (intro j hj hjb; unfold onB at hjb; exfalso; omega)), one_c _ _ _ _ _ hC (by omega), ?_⟩; intro r5 w5 e5 h5; have z5 := cutLe e5; obtain ⟨hr5, hC⟩ := h5; (try replace hown := hown.cur h0 (by omega) e5); (try replace oB := oB.cur h0 (by omega) e5); obtain ⟨x5, rfl, hx5⟩ := hr5)
    | ((with_reducible refine DRAW.plan (id := 6) (.one 0 (.one 1 (.one 2 (.one 3 (.one 4 (.one 6 (.start (.alt 5 (.start (.alt 7 (.one 8 (.one 9 .done)) .stop)) (.alt 7 (.start (.alt 5 (.one 8 (.one 9 .done)) .stop)) .stop))))))))) ?_ ?_ ?_ ?_); kernel_rfl; kernel_rfl; kernel_rfl)
    | (with_reducible refine And.intro ?_ ?_)
    | (exact True.intro)
    | ((with_reducible refine bsI ?_ ?_ ?_ ?_ ?_); (focus rfl); (focus rfl); (focus omega); (focus rfl); intro w9 e9 oB; have z9 := cutLe e9; replace hC := hC.e0 e9; (try replace hown := hown.e0 e9))
    | ((with_reducible refine OBL.mk ?_ (fun _ => ?_)); (have his := hown.row.1.isSome (by simp; omega)); exact ⟨by omega, by omega, his⟩)
    | ((with_reducible refine ELD.atNow (enc := encOrd) (xs := xs5) (xs5.length - 1) hown.row.1 ?_ ?_ (fun y hy => ?_)); (focus omega); (focus omega); have hfy := hf5 y (List.mem_of_getElem? hy))
    | ((with_reducible refine AR.ok ?_ ?_); exact ⟨by first | omega | (dsimp only; omega), by first | omega | (dsimp only; omega)⟩)
    | ((with_reducible refine AR.fit (fun r hr => ?_)))
    | ((with_reducible refine callM (g := 27) ?_ ?_); kernel_rfl; refine ⟨onB _, _, (by repeat (first | exact trivial | (refine ⟨?_, ?_⟩; (focus (show ¬ _ = _; dsimp only; omega))))), (by first | exact fun _ _ hj => hj | (intro j hj hjb; unfold onB at hjb; exfalso; omega)), pick_c _ _ _ _ _ hC (by omega), ?_⟩; intro r5 w5 e5 h5; have z5 := cutLe e5; obtain ⟨hr5, hC⟩ := h5; (try replace hown := hown.cur h0 (by omega) e5); (try replace oB := oB.cur h0 (by omega) e5); obtain ⟨x5, rfl, hx5⟩ := hr5)
    | ((with_reducible refine OBL.mk (o := ((12 : Int) ≠ 0)) ?_ (fun _ => ?_)); (focus decide); have td5 := tdiv_b (x := x5) (m := 12) (by omega) (by omega))
    | ((with_reducible refine OBL.mk ?_ (fun _ => ?_)); omega)
    | ((with_reducible refine callM (g := 28) ?_ ?_); kernel_rfl; refine ⟨onB _, _, (by repeat (first | exact trivial | (refine ⟨?_, ?_⟩; (focus (show ¬ _ = _; dsimp only; omega))))), (by first | exact fun _ _ hj => hj | (intro j hj hjb; unfold onB at hjb; exfalso; omega)), amongP_c _ _ _ _ _ _ (fun r => -1 ≤ r ∧ r ≤ 4001) _ _ _ _ hC (by omega) oB.row (by omega) (notOn (by omega)) (by intro y hy; unfold intsOf at hy; simp at hy; omega), ?_⟩; intro r5 w5 e5 h5; have z5 := cutLe e5; obtain ⟨hr5, hC⟩ := h5; (try replace hown := hown.cur h0 (by omega) e5); (try replace oB := oB.cur h0 (by omega) e5); obtain ⟨x5, rfl, hx5⟩ := hr5)
    | ((with_reducible refine BIF.dec ?_ ?_) <;> intro _)
    | ((with_reducible refine BIF.s ?_ ?_) <;> intro _)
    | (with_reducible refine NEXTK.normal ?_)
    | (with_reducible refine NEXTK.ret ?_)
    | (with_reducible refine NEXTK.exit ?_)
    | (with_reducible refine SEQ.plain ?_)
    | (with_reducible refine hK _ _ ?_)
    | ((with_reducible refine RUNL.agg (fun _ => ?_) ?_); (focus kernel_rfl))
    | (with_reducible refine RUNL.run ?_)
    | ((with_reducible refine AR.ok ?_ ?_); exact ⟨by first | omega | (dsimp only; omega), by first | omega | (dsimp only; omega)⟩)
    | (with_reducible refine AR.wr ?_)
    | ((with_reducible intro w3 e3); try have z3 := cutLe e3)
    | ((with_reducible intro h3); have h4 := Nat.le_of_lt h3; clear h4)))
  all_goals
    intro hx
    exact ⟨_, rfl, hx, _, xs5, _, _, _, rfl, by unfold I64; omega, by unfold I64; omega, by first | assumption | (unfold I64; omega), hl5, hf5, hown.lo (by omega)⟩

end Go.Proofs.Ytlhlbgnhnkfmgaa

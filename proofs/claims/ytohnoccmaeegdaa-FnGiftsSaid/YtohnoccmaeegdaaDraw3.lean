/- The draws of arguments. -/
import Derived.Test.YtohnoccmaeegdaaRows
import Derived.Test.YtohnoccmaeegdaaDraw2
namespace Go.Proofs.Ytohnoccmaeegdaa
open Go Go.X Go.Proofs Go.ChangeShapes Go.WideShapes Go.ChangeAt Go.RowKit
open Go.ChangeMaps (open_string shut_string)
set_option maxHeartbeats 1000000
set_option maxRecDepth 20000
set_option linter.unusedVariables false
set_option linter.unusedSimpArgs false
def DLG (w' : World) (lo : Nat) (s : Value) (xs : List Gft) : Prop := xs.length ≤ 13 ∧ (∀ x ∈ xs, fitGft x) ∧ Own w' lo 63 5 s (xs.map encGft)
theorem DrawTakeGift_c (a : Option Addr) (n c : Nat) (bs : List Int) (w : World) (hr : Row w a 1 (bs.map encB)) (hn : bs.length = n) (hsm : n ≤ 65536) (hby : ∀ y ∈ bs, 0 ≤ y ∧ y ≤ 255) :
    Calls Try.prog 6 #[.slice a n c] w fun e w' => ∃ v, e = .returned v ∧ E0 w w' ∧ ∃ s xs r i1 i2, v = .tuple #[s, .string r, .int .i64 i1, .int .i64 i2] ∧ r.size ≤ 1000 ∧ I64 i1 ∧ I64 i2 ∧ DLG w' w.heap.size s xs := by
  refine enterKF Non 49 Try.func6 rfl rfl rfl fun K hK => ?_
  repeat (any_goals (
    conv => whnf
    first
    | ((with_reducible refine RUNL.cur (fun _ => ?_) ?_); (focus kernel_rfl))
    | ((with_reducible intro w3 e3); have s3 := e3.size; have z3 := cutLe e3.ext; have hC := Cur.new e3 (by repeat (first | assumption | refine Row.e0 ?_ (by assumption))) hn hsm hby; have h0 := hC)
    | ((with_reducible intro w3 e3); have z3 := cutLe e3; (try replace hC := (by first | exact hC.e0 e3 | exact hC.past h0 e3 (fun j hj e => by simp only [bk] at e; omega))); (try replace hown := (by first | exact hown.e0 e3 | exact hown.ext e3 (by intro kk hkk h; have hh := (hown.block hkk).1; simp only [bk] at h; omega))); (try replace hown2 := (by first | exact hown2.e0 e3 | exact hown2.ext e3 (by intro kk hkk h; have hh := (hown2.block hkk).1; simp only [bk] at h; omega))))
    | ((with_reducible refine callM (g := 33) ?_ ?_); kernel_rfl; refine ⟨onB _, _, (by repeat (first | exact trivial | (refine ⟨?_, ?_⟩; (focus (show ¬ _ = _; dsimp only; omega))))), (by first | exact fun _ _ hj => hj | (intro j hj hjb; unfold onB at hjb; exfalso; omega)), gifts_c _ _ _ _ hC (by omega), ?_⟩; intro r5 w5 e5 h5; have z5 := cutLe e5; obtain ⟨hr5, hC⟩ := h5; (try replace hown := hown.cur h0 (by omega) e5); (try replace hown2 := hown2.cur h0 (by omega) e5); (try replace oB := oB.cur h0 (by omega) e5); (try replace hE := hE.trans e5); obtain ⟨xs5, hl5, hf5, o5⟩ := hr5; obtain ⟨a5, c5, rfl, q5, p5⟩ := o5.rowx; have hown := o5)
    | ((with_reducible refine callM (g := 34) ?_ ?_); kernel_rfl; refine ⟨onB _, _, (by repeat (first | exact trivial | (refine ⟨?_, ?_⟩; (focus (show ¬ _ = _; dsimp only; omega))))), (by first | exact fun _ _ hj => hj | (intro j hj hjb; unfold onB at hjb; exfalso; omega)), giftDay_c _ _ _ _ _ _ xs5 _ hC (by omega) hown.row.1 rfl (by omega) (ownOff hown (by omega)) hf5, ?_⟩; intro r5 w5 e5 h5; have z5 := cutLe e5; obtain ⟨hr5, hC⟩ := h5; (try replace hown := hown.cur h0 (by omega) e5); (try replace hown2 := hown2.cur h0 (by omega) e5); (try replace oB := oB.cur h0 (by omega) e5); (try replace hE := hE.trans e5); obtain ⟨x5, rfl, hx5⟩ := hr5)
    | ((with_reducible refine callM (g := 35) ?_ ?_); kernel_rfl; refine ⟨onB _, _, (by repeat (first | exact trivial | (refine ⟨?_, ?_⟩; (focus (show ¬ _ = _; dsimp only; omega))))), (by first | exact fun _ _ hj => hj | (intro j hj hjb; unfold onB at hjb; exfalso; omega)), one_c _ _ _ _ _ hC (by omega), ?_⟩; intro r5 w5 e5 h5; have z5 := cutLe e5; obtain ⟨hr5, hC⟩ := h5; (try replace hown := hown.cur h0 (by omega) e5); (try replace hown2 := hown2.cur h0 (by omega) e5); (try replace oB := oB.cur h0 (by omega) e5); (try replace hE := hE.trans e5); obtain ⟨x5, rfl, hx5⟩ := hr5)
    | ((with_reducible refine DRAW.plan (id := 6) (.one 0 (.one 1 (.one 2 (.one 3 (.one 4 (.one 6 (.start (.alt 5 (.start (.alt 7 (.one 8 (.one 9 .done)) .stop)) (.alt 7 (.start (.alt 5 (.one 8 (.one 9 .done)) .stop)) .stop))))))))) ?_ ?_ ?_ ?_); kernel_rfl; kernel_rfl; kernel_rfl)
    | (with_reducible refine And.intro ?_ ?_)
    | (exact True.intro)
    | ((with_reducible refine OBL.mk ?_ (fun _ => ?_)); (have his := hown.row.1.isSome (by simp; omega)); exact ⟨by omega, by omega, his⟩)
    | ((with_reducible refine ELD.atNow (enc := encGft) (xs := xs5) (xs5.length - 1) hown.row.1 ?_ ?_ (fun y hy => ?_)); (focus omega); (focus omega); have hfy := hf5 y (List.mem_of_getElem? hy))
    | ((with_reducible refine AR.ok ?_ ?_); exact ⟨by first | omega | (dsimp only; omega), by first | omega | (dsimp only; omega)⟩)
    | ((with_reducible refine AR.fit (fun r hr => ?_)))
    | ((with_reducible refine callM (g := 36) ?_ ?_); kernel_rfl; refine ⟨onB _, _, (by repeat (first | exact trivial | (refine ⟨?_, ?_⟩; (focus (show ¬ _ = _; dsimp only; omega))))), (by first | exact fun _ _ hj => hj | (intro j hj hjb; unfold onB at hjb; exfalso; omega)), pick_c _ _ _ _ _ hC (by omega), ?_⟩; intro r5 w5 e5 h5; have z5 := cutLe e5; obtain ⟨hr5, hC⟩ := h5; (try replace hown := hown.cur h0 (by omega) e5); (try replace hown2 := hown2.cur h0 (by omega) e5); (try replace oB := oB.cur h0 (by omega) e5); (try replace hE := hE.trans e5); obtain ⟨x5, rfl, hx5⟩ := hr5)
    | ((with_reducible refine bsI ?_ ?_ ?_ ?_ ?_); (focus rfl); (focus rfl); (focus omega); (focus rfl); intro w9 e9 oB; have z9 := cutLe e9; replace hC := hC.e0 e9; (try replace hown := hown.e0 e9); (try replace hown2 := hown2.e0 e9); (try replace hE := hE.trans (Ext.of0 e9)))
    | ((with_reducible refine bsT ?_ ?_ ?_ ?_ ?_); (focus rfl); (focus rfl); (focus omega); (focus rfl); intro w9 e9 oB; have z9 := cutLe e9; replace hC := hC.e0 e9; (try replace hown := hown.e0 e9); (try replace hown2 := hown2.e0 e9); (try replace hE := hE.trans (Ext.of0 e9)))
    | ((with_reducible refine callM (g := 37) ?_ ?_); kernel_rfl; refine ⟨onB _, _, (by repeat (first | exact trivial | (refine ⟨?_, ?_⟩; (focus (show ¬ _ = _; dsimp only; omega))))), (by first | exact fun _ _ hj => hj | (intro j hj hjb; unfold onB at hjb; exfalso; omega)), of_c _ _ _ _ _ _ _ _ hC (by omega) oB.row.1 (by first | rfl | (simp; omega)) (by omega) (notOn (by omega)) (by kernel_rfl), ?_⟩; intro r5 w5 e5 h5; have z5 := cutLe e5; obtain ⟨hr5, hC⟩ := h5; (try replace hown := hown.cur h0 (by omega) e5); (try replace hown2 := hown2.cur h0 (by omega) e5); (try replace oB := oB.cur h0 (by omega) e5); (try replace hE := hE.trans e5); obtain ⟨x5, rfl, hx5⟩ := hr5 ; (have hq5 := hx5))
    | ((with_reducible refine OBL.mk (o := ((12 : Int) ≠ 0)) ?_ (fun _ => ?_)); (focus decide); have td5 := tdiv_b (x := x5) (m := 12) (by omega) (by omega))
    | ((with_reducible refine OBL.mk ?_ (fun _ => ?_)); omega)
    | ((with_reducible refine callM (g := 38) ?_ ?_); kernel_rfl; refine ⟨onB _, _, (by repeat (first | exact trivial | (refine ⟨?_, ?_⟩; (focus (show ¬ _ = _; dsimp only; omega))))), (by first | exact fun _ _ hj => hj | (intro j hj hjb; unfold onB at hjb; exfalso; omega)), amongP_c _ _ _ _ _ _ (fun r => -1 ≤ r ∧ r ≤ 4001) _ _ _ _ hC (by omega) oB.row (by omega) (notOn (by omega)) (by intro y hy; unfold intsOf at hy; simp at hy; omega), ?_⟩; intro r5 w5 e5 h5; have z5 := cutLe e5; obtain ⟨hr5, hC⟩ := h5; (try replace hown := hown.cur h0 (by omega) e5); (try replace hown2 := hown2.cur h0 (by omega) e5); (try replace oB := oB.cur h0 (by omega) e5); (try replace hE := hE.trans e5); obtain ⟨x5, rfl, hx5⟩ := hr5)
    | ((with_reducible refine BIF.dec ?_ ?_) <;> intro _)
    | ((with_reducible refine BIF.s ?_ ?_) <;> intro _)
    | (with_reducible refine NEXTK.normal ?_)
    | (with_reducible refine NEXTK.ret ?_)
    | (with_reducible refine NEXTK.exit ?_)
    | (with_reducible refine SEQ.plain ?_)
    | (with_reducible refine hK _ _ ?_)
    | ((with_reducible refine RUNL.agg (fun _ => ?_) ?_); (focus kernel_rfl))
    | (with_reducible refine RUNL.run ?_)
    | ((with_reducible refine AR.ok ?_ ?_); exact ⟨by first | omega | (dsimp only; omega), by first | omega | (dsimp only; omega)⟩)
    | (with_reducible refine AR.wr ?_)
    | ((with_reducible intro w3 e3); try have z3 := cutLe e3)
    | ((with_reducible intro h3); have h4 := Nat.le_of_lt h3; clear h4)))
  all_goals
    intro hx
    exact ⟨_, rfl, hx, _, xs5, _, _, _, rfl, hq5, by unfold I64; omega, by first | assumption | (unfold I64; omega), hl5, hf5, hown.lo (by omega)⟩
theorem DrawThankFor_c (a : Option Addr) (n c : Nat) (bs : List Int) (w : World) (hr : Row w a 1 (bs.map encB)) (hn : bs.length = n) (hsm : n ≤ 65536) (hby : ∀ y ∈ bs, 0 ≤ y ∧ y ≤ 255) :
    Calls Try.prog 13 #[.slice a n c] w fun e w' => ∃ v, e = .returned v ∧ E0 w w' ∧ ∃ s xs i1 i2, v = .tuple #[s, .int .i64 i1, .int .i64 i2] ∧ I64 i1 ∧ I64 i2 ∧ DLG w' w.heap.size s xs := by
  refine enterKF Non 38 Try.func13 rfl rfl rfl fun K hK => ?_
  repeat (any_goals (
    conv => whnf
    first
    | ((with_reducible refine RUNL.cur (fun _ => ?_) ?_); (focus kernel_rfl))
    | ((with_reducible intro w3 e3); have s3 := e3.size; have z3 := cutLe e3.ext; have hC := Cur.new e3 (by repeat (first | assumption | refine Row.e0 ?_ (by assumption))) hn hsm hby; have h0 := hC)
    | ((with_reducible intro w3 e3); have z3 := cutLe e3; (try replace hC := (by first | exact hC.e0 e3 | exact hC.past h0 e3 (fun j hj e => by simp only [bk] at e; omega))); (try replace hown := (by first | exact hown.e0 e3 | exact hown.ext e3 (by intro kk hkk h; have hh := (hown.block hkk).1; simp only [bk] at h; omega))); (try replace hown2 := (by first | exact hown2.e0 e3 | exact hown2.ext e3 (by intro kk hkk h; have hh := (hown2.block hkk).1; simp only [bk] at h; omega))))
    | ((with_reducible refine callM (g := 33) ?_ ?_); kernel_rfl; refine ⟨onB _, _, (by repeat (first | exact trivial | (refine ⟨?_, ?_⟩; (focus (show ¬ _ = _; dsimp only; omega))))), (by first | exact fun _ _ hj => hj | (intro j hj hjb; unfold onB at hjb; exfalso; omega)), gifts_c _ _ _ _ hC (by omega), ?_⟩; intro r5 w5 e5 h5; have z5 := cutLe e5; obtain ⟨hr5, hC⟩ := h5; (try replace hown := hown.cur h0 (by omega) e5); (try replace hown2 := hown2.cur h0 (by omega) e5); (try replace oB := oB.cur h0 (by omega) e5); (try replace hE := hE.trans e5); obtain ⟨xs5, hl5, hf5, o5⟩ := hr5; obtain ⟨a5, c5, rfl, q5, p5⟩ := o5.rowx; have hown := o5)
    | ((with_reducible refine callM (g := 34) ?_ ?_); kernel_rfl; refine ⟨onB _, _, (by repeat (first | exact trivial | (refine ⟨?_, ?_⟩; (focus (show ¬ _ = _; dsimp only; omega))))), (by first | exact fun _ _ hj => hj | (intro j hj hjb; unfold onB at hjb; exfalso; omega)), giftDay_c _ _ _ _ _ _ xs5 _ hC (by omega) hown.row.1 rfl (by omega) (ownOff hown (by omega)) hf5, ?_⟩; intro r5 w5 e5 h5; have z5 := cutLe e5; obtain ⟨hr5, hC⟩ := h5; (try replace hown := hown.cur h0 (by omega) e5); (try replace hown2 := hown2.cur h0 (by omega) e5); (try replace oB := oB.cur h0 (by omega) e5); (try replace hE := hE.trans e5); obtain ⟨x5, rfl, hx5⟩ := hr5)
    | ((with_reducible refine bsI ?_ ?_ ?_ ?_ ?_); (focus rfl); (focus rfl); (focus omega); (focus rfl); intro w9 e9 oB; have z9 := cutLe e9; replace hC := hC.e0 e9; (try replace hown := hown.e0 e9); (try replace hown2 := hown2.e0 e9); (try replace hE := hE.trans (Ext.of0 e9)))
    | ((with_reducible refine callM (g := 38) ?_ ?_); kernel_rfl; refine ⟨onB _, _, (by repeat (first | exact trivial | (refine ⟨?_, ?_⟩; (focus (show ¬ _ = _; dsimp only; omega))))), (by first | exact fun _ _ hj => hj | (intro j hj hjb; unfold onB at hjb; exfalso; omega)), among_c _ _ _ _ _ _ _ (fun r => 0 ≤ r ∧ r ≤ 4000) _ hC (by omega) oB.row.1 (by first | rfl | (simp; omega)) (by omega) (notOn (by omega)) (by intro y hy; unfold intsOf at hy; simp at hy; omega), ?_⟩; intro r5 w5 e5 h5; have z5 := cutLe e5; obtain ⟨hr5, hC⟩ := h5; (try replace hown := hown.cur h0 (by omega) e5); (try replace hown2 := hown2.cur h0 (by omega) e5); (try replace oB := oB.cur h0 (by omega) e5); (try replace hE := hE.trans e5); obtain ⟨x5, rfl, hx5⟩ := hr5)
    | ((with_reducible refine callM (g := 35) ?_ ?_); kernel_rfl; refine ⟨onB _, _, (by repeat (first | exact trivial | (refine ⟨?_, ?_⟩; (focus (show ¬ _ = _; dsimp only; omega))))), (by first | exact fun _ _ hj => hj | (intro j hj hjb; unfold onB at hjb; exfalso; omega)), one_c _ _ _ _ _ hC (by omega), ?_⟩; intro r5 w5 e5 h5; have z5 := cutLe e5; obtain ⟨hr5, hC⟩ := h5; (try replace hown := hown.cur h0 (by omega) e5); (try replace hown2 := hown2.cur h0 (by omega) e5); (try replace oB := oB.cur h0 (by omega) e5); (try replace hE := hE.trans e5); obtain ⟨x5, rfl, hx5⟩ := hr5)
    | ((with_reducible refine callM (g := 36) ?_ ?_); kernel_rfl; refine ⟨onB _, _, (by repeat (first | exact trivial | (refine ⟨?_, ?_⟩; (focus (show ¬ _ = _; dsimp only; omega))))), (by first | exact fun _ _ hj => hj | (intro j hj hjb; unfold onB at hjb; exfalso; omega)), pick_c _ _ _ _ _ hC (by omega), ?_⟩; intro r5 w5 e5 h5; have z5 := cutLe e5; obtain ⟨hr5, hC⟩ := h5; (try replace hown := hown.cur h0 (by omega) e5); (try replace hown2 := hown2.cur h0 (by omega) e5); (try replace oB := oB.cur h0 (by omega) e5); (try replace hE := hE.trans e5); obtain ⟨x5, rfl, hx5⟩ := hr5)
    | ((with_reducible refine OBL.mk ?_ (fun _ => ?_)); (have his := hown.row.1.isSome (by simp; omega)); exact ⟨by omega, by omega, his⟩)
    | ((with_reducible refine ELD.atNow (enc := encGft) (xs := xs5) x5.toNat hown.row.1 ?_ ?_ (fun y hy => ?_)); (focus omega); (focus omega); have hfy := hf5 y (List.mem_of_getElem? hy); unfold fitGft at hfy)
    | ((with_reducible refine BIF.dec ?_ ?_) <;> intro _)
    | ((with_reducible refine BIF.s ?_ ?_) <;> intro _)
    | (with_reducible refine NEXTK.normal ?_)
    | (with_reducible refine NEXTK.ret ?_)
    | (with_reducible refine NEXTK.exit ?_)
    | (with_reducible refine SEQ.plain ?_)
    | (with_reducible refine hK _ _ ?_)
    | ((with_reducible refine RUNL.agg (fun _ => ?_) ?_); (focus kernel_rfl))
    | (with_reducible refine RUNL.run ?_)
    | ((with_reducible refine AR.ok ?_ ?_); exact ⟨by first | omega | (dsimp only; omega), by first | omega | (dsimp only; omega)⟩)
    | (with_reducible refine AR.wr ?_)
    | ((with_reducible intro w3 e3); try have z3 := cutLe e3)
    | ((with_reducible intro h3); have h4 := Nat.le_of_lt h3; clear h4)))
  all_goals
    intro hx
    exact ⟨_, rfl, hx, _, xs5, _, _, rfl, by first | exact hfy.1 | (unfold I64; omega), by unfold I64; omega, hl5, hf5, hown.lo (by omega)⟩
theorem DrawJoinGivers_c (a : Option Addr) (n c : Nat) (bs : List Int) (w : World) (hr : Row w a 1 (bs.map encB)) (hn : bs.length = n) (hsm : n ≤ 65536) (hby : ∀ y ∈ bs, 0 ≤ y ∧ y ≤ 255) :
    Calls Try.prog 16 #[.slice a n c] w fun e w' => ∃ v, e = .returned v ∧ E0 w w' ∧ ∃ s xs r1 r2, v = .tuple #[s, .string r1, .string r2] ∧ r1.size ≤ 1000 ∧ r2.size ≤ 1000 ∧ DLG w' w.heap.size s xs := by
  refine enterKF Non 17 Try.func16 rfl rfl rfl fun K hK => ?_
  repeat (any_goals (
    conv => whnf
    first
    | ((with_reducible refine RUNL.cur (fun _ => ?_) ?_); (focus kernel_rfl))
    | ((with_reducible intro w3 e3); have s3 := e3.size; have z3 := cutLe e3.ext; have hC := Cur.new e3 (by repeat (first | assumption | refine Row.e0 ?_ (by assumption))) hn hsm hby; have h0 := hC)
    | ((with_reducible intro w3 e3); have z3 := cutLe e3; (try replace hC := (by first | exact hC.e0 e3 | exact hC.past h0 e3 (fun j hj e => by simp only [bk] at e; omega))); (try replace hown := (by first | exact hown.e0 e3 | exact hown.ext e3 (by intro kk hkk h; have hh := (hown.block hkk).1; simp only [bk] at h; omega))); (try replace hown2 := (by first | exact hown2.e0 e3 | exact hown2.ext e3 (by intro kk hkk h; have hh := (hown2.block hkk).1; simp only [bk] at h; omega))))
    | ((with_reducible refine callM (g := 33) ?_ ?_); kernel_rfl; refine ⟨onB _, _, (by repeat (first | exact trivial | (refine ⟨?_, ?_⟩; (focus (show ¬ _ = _; dsimp only; omega))))), (by first | exact fun _ _ hj => hj | (intro j hj hjb; unfold onB at hjb; exfalso; omega)), gifts_c _ _ _ _ hC (by omega), ?_⟩; intro r5 w5 e5 h5; have z5 := cutLe e5; obtain ⟨hr5, hC⟩ := h5; (try replace hown := hown.cur h0 (by omega) e5); (try replace hown2 := hown2.cur h0 (by omega) e5); (try replace oB := oB.cur h0 (by omega) e5); (try replace hE := hE.trans e5); obtain ⟨xs5, hl5, hf5, o5⟩ := hr5; obtain ⟨a5, c5, rfl, q5, p5⟩ := o5.rowx; have hown := o5)
    | ((with_reducible refine bsT ?_ ?_ ?_ ?_ ?_); (focus rfl); (focus rfl); (focus omega); (focus rfl); intro w9 e9 oB; have z9 := cutLe e9; replace hC := hC.e0 e9; (try replace hown := hown.e0 e9); (try replace hown2 := hown2.e0 e9); (try replace hE := hE.trans (Ext.of0 e9)))
    | ((with_reducible refine callM (g := 37) ?_ ?_); kernel_rfl; refine ⟨onB _, _, (by repeat (first | exact trivial | (refine ⟨?_, ?_⟩; (focus (show ¬ _ = _; dsimp only; omega))))), (by first | exact fun _ _ hj => hj | (intro j hj hjb; unfold onB at hjb; exfalso; omega)), of_c _ _ _ _ _ _ _ _ hC (by omega) oB.row.1 (by first | rfl | (simp; omega)) (by omega) (notOn (by omega)) (by kernel_rfl), ?_⟩; intro r5 w5 e5 h5; have z5 := cutLe e5; obtain ⟨hr5, hC⟩ := h5; (try replace hown := hown.cur h0 (by omega) e5); (try replace hown2 := hown2.cur h0 (by omega) e5); (try replace oB := oB.cur h0 (by omega) e5); (try replace hE := hE.trans e5); obtain ⟨x5, rfl, hx5⟩ := hr5)
    | ((with_reducible refine BIF.dec ?_ ?_) <;> intro _)
    | ((with_reducible refine BIF.s ?_ ?_) <;> intro _)
    | (with_reducible refine NEXTK.normal ?_)
    | (with_reducible refine NEXTK.ret ?_)
    | (with_reducible refine NEXTK.exit ?_)
    | (with_reducible refine SEQ.plain ?_)
    | (with_reducible refine hK _ _ ?_)
    | ((with_reducible refine RUNL.agg (fun _ => ?_) ?_); (focus kernel_rfl))
    | (with_reducible refine RUNL.run ?_)
    | ((with_reducible refine AR.ok ?_ ?_); exact ⟨by first | omega | (dsimp only; omega), by first | omega | (dsimp only; omega)⟩)
    | (with_reducible refine AR.wr ?_)
    | ((with_reducible intro w3 e3); try have z3 := cutLe e3)
    | ((with_reducible intro h3); have h4 := Nat.le_of_lt h3; clear h4)))
  all_goals
    intro hx
    exact ⟨_, rfl, hx, _, xs5, _, _, rfl, by assumption, by assumption, hl5, hf5, hown.lo (by omega)⟩
theorem DrawUnthanked_c (a : Option Addr) (n c : Nat) (bs : List Int) (w : World) (hr : Row w a 1 (bs.map encB)) (hn : bs.length = n) (hsm : n ≤ 65536) (hby : ∀ y ∈ bs, 0 ≤ y ∧ y ≤ 255) :
    Calls Try.prog 19 #[.slice a n c] w fun e w' => ∃ v, e = .returned v ∧ E0 w w' ∧ ∃ s xs i1 i2, v = .tuple #[s, .int .i64 i1, .int .i64 i2] ∧ I64 i1 ∧ I64 i2 ∧ DLG w' w.heap.size s xs := by
  refine enterKF Non 24 Try.func19 rfl rfl rfl fun K hK => ?_
  repeat (any_goals (
    conv => whnf
    first
    | ((with_reducible refine RUNL.cur (fun _ => ?_) ?_); (focus kernel_rfl))
    | ((with_reducible intro w3 e3); have s3 := e3.size; have z3 := cutLe e3.ext; have hC := Cur.new e3 (by repeat (first | assumption | refine Row.e0 ?_ (by assumption))) hn hsm hby; have h0 := hC)
    | ((with_reducible intro w3 e3); have z3 := cutLe e3; (try replace hC := (by first | exact hC.e0 e3 | exact hC.past h0 e3 (fun j hj e => by simp only [bk] at e; omega))); (try replace hown := (by first | exact hown.e0 e3 | exact hown.ext e3 (by intro kk hkk h; have hh := (hown.block hkk).1; simp only [bk] at h; omega))); (try replace hown2 := (by first | exact hown2.e0 e3 | exact hown2.ext e3 (by intro kk hkk h; have hh := (hown2.block hkk).1; simp only [bk] at h; omega))))
    | ((with_reducible refine callM (g := 33) ?_ ?_); kernel_rfl; refine ⟨onB _, _, (by repeat (first | exact trivial | (refine ⟨?_, ?_⟩; (focus (show ¬ _ = _; dsimp only; omega))))), (by first | exact fun _ _ hj => hj | (intro j hj hjb; unfold onB at hjb; exfalso; omega)), gifts_c _ _ _ _ hC (by omega), ?_⟩; intro r5 w5 e5 h5; have z5 := cutLe e5; obtain ⟨hr5, hC⟩ := h5; (try replace hown := hown.cur h0 (by omega) e5); (try replace hown2 := hown2.cur h0 (by omega) e5); (try replace oB := oB.cur h0 (by omega) e5); (try replace hE := hE.trans e5); obtain ⟨xs5, hl5, hf5, o5⟩ := hr5; obtain ⟨a5, c5, rfl, q5, p5⟩ := o5.rowx; have hown := o5)
    | ((with_reducible refine callM (g := 34) ?_ ?_); kernel_rfl; refine ⟨onB _, _, (by repeat (first | exact trivial | (refine ⟨?_, ?_⟩; (focus (show ¬ _ = _; dsimp only; omega))))), (by first | exact fun _ _ hj => hj | (intro j hj hjb; unfold onB at hjb; exfalso; omega)), giftDay_c _ _ _ _ _ _ xs5 _ hC (by omega) hown.row.1 rfl (by omega) (ownOff hown (by omega)) hf5, ?_⟩; intro r5 w5 e5 h5; have z5 := cutLe e5; obtain ⟨hr5, hC⟩ := h5; (try replace hown := hown.cur h0 (by omega) e5); (try replace hown2 := hown2.cur h0 (by omega) e5); (try replace oB := oB.cur h0 (by omega) e5); (try replace hE := hE.trans e5); obtain ⟨x5, rfl, hx5⟩ := hr5)
    | ((with_reducible refine bsI ?_ ?_ ?_ ?_ ?_); (focus rfl); (focus rfl); (focus omega); (focus rfl); intro w9 e9 oB; have z9 := cutLe e9; replace hC := hC.e0 e9; (try replace hown := hown.e0 e9); (try replace hown2 := hown2.e0 e9); (try replace hE := hE.trans (Ext.of0 e9)))
    | ((with_reducible refine callM (g := 36) ?_ ?_); kernel_rfl; refine ⟨onB _, _, (by repeat (first | exact trivial | (refine ⟨?_, ?_⟩; (focus (show ¬ _ = _; dsimp only; omega))))), (by first | exact fun _ _ hj => hj | (intro j hj hjb; unfold onB at hjb; exfalso; omega)), pick_c _ _ _ _ _ hC (by omega), ?_⟩; intro r5 w5 e5 h5; have z5 := cutLe e5; obtain ⟨hr5, hC⟩ := h5; (try replace hown := hown.cur h0 (by omega) e5); (try replace hown2 := hown2.cur h0 (by omega) e5); (try replace oB := oB.cur h0 (by omega) e5); (try replace hE := hE.trans e5); obtain ⟨x5, rfl, hx5⟩ := hr5)
    | ((with_reducible refine OBL.mk (o := ((11 : Int) ≠ 0)) ?_ (fun _ => ?_)); (focus decide); have td5 := tdiv_b (x := x5) (m := 11) (by omega) (by omega))
    | ((with_reducible refine OBL.mk ?_ (fun _ => ?_)); omega)
    | ((with_reducible refine callM (g := 38) ?_ ?_); kernel_rfl; refine ⟨onB _, _, (by repeat (first | exact trivial | (refine ⟨?_, ?_⟩; (focus (show ¬ _ = _; dsimp only; omega))))), (by first | exact fun _ _ hj => hj | (intro j hj hjb; unfold onB at hjb; exfalso; omega)), amongP_c _ _ _ _ _ _ (fun r => -1 ≤ r ∧ r ≤ 4001) _ _ _ _ hC (by omega) oB.row (by omega) (notOn (by omega)) (by intro y hy; unfold intsOf at hy; simp at hy; omega), ?_⟩; intro r5 w5 e5 h5; have z5 := cutLe e5; obtain ⟨hr5, hC⟩ := h5; (try replace hown := hown.cur h0 (by omega) e5); (try replace hown2 := hown2.cur h0 (by omega) e5); (try replace oB := oB.cur h0 (by omega) e5); (try replace hE := hE.trans e5); obtain ⟨x5, rfl, hx5⟩ := hr5)
    | ((with_reducible refine BIF.dec ?_ ?_) <;> intro _)
    | ((with_reducible refine BIF.s ?_ ?_) <;> intro _)
    | (with_reducible refine NEXTK.normal ?_)
    | (with_reducible refine NEXTK.ret ?_)
    | (with_reducible refine NEXTK.exit ?_)
    | (with_reducible refine SEQ.plain ?_)
    | (with_reducible refine hK _ _ ?_)
    | ((with_reducible refine RUNL.agg (fun _ => ?_) ?_); (focus kernel_rfl))
    | (with_reducible refine RUNL.run ?_)
    | ((with_reducible refine AR.ok ?_ ?_); exact ⟨by first | omega | (dsimp only; omega), by first | omega | (dsimp only; omega)⟩)
    | (with_reducible refine AR.wr ?_)
    | ((with_reducible intro w3 e3); try have z3 := cutLe e3)
    | ((with_reducible intro h3); have h4 := Nat.le_of_lt h3; clear h4)))
  all_goals
    intro hx
    exact ⟨_, rfl, hx, _, xs5, _, _, rfl, by unfold I64; omega, by unfold I64; omega, hl5, hf5, hown.lo (by omega)⟩

end Go.Proofs.Ytohnoccmaeegdaa

/- The draws of an entry. -/
import Derived.Test.YtpddilkonkkppaaGreatDoorRows
import Derived.Test.YtpddilkonkkppaaGreatDoorDraw
namespace Go.Proofs.YtpddilkonkkppaaGreatDoor
open Go Go.X Go.Proofs Go.ChangeShapes Go.WideShapes Go.ChangeAt Go.RowKit
open Go.ChangeMaps (open_string shut_string)
set_option maxHeartbeats 1000000
set_option maxRecDepth 20000
set_option linter.unusedVariables false
set_option linter.unusedSimpArgs false
theorem WOP.xb {α : Type} {c : Ctx} {S : St} {run : Sem α} {k : α → World → Prop} (h : Ext c.m c.w0 S.w → Boxes S → WOP c S run k) : WOP c S run k := by
  unfold WOP
  intro hx hb
  exact (h hx hb).elim hx hb
theorem own_box {w : World} {lo : Nat} {e T : TypeId} {sz : Nat} {v : Value} {ls : List (List Value)} {cs : Array Value} (h : Own w lo e sz v ls) {g : Nat} (hh : w.heap[g]? = some (.cells cs T (0, 0))) (hne : e ≠ T) {k : Nat} (hk : v.ownBlock = some k) : ¬ k = g := by
  rintro rfl
  obtain ⟨⟨-, h2⟩, -⟩ := h
  rcases h2 with ⟨rfl, -⟩ | ⟨g', cap, cur, rfl, -, hg, -⟩
  · cases hk
  · simp only [Value.ownBlock] at hk
    cases hk
    rw [hg] at hh
    injection hh with hh
    injection hh with _ h3
    exact hne h3
def fitE (t : Tri) : Prop := (-100000 ≤ t.1.fId ∧ t.1.fId ≤ 100000) ∧ t.1.fTitle.size ≤ 1000 ∧ t.1.fPlace.size ≤ 1000 ∧ (0 ≤ t.1.fYear ∧ t.1.fYear ≤ 10000) ∧ (0 ≤ t.1.fCount ∧ t.1.fCount ≤ 10000) ∧ t.1.fSeen.length ≤ 10
def RE (lo : Nat) (w' : World) (v : Value) : Prop := ∃ t : Tri, v = .agg (encT t).toArray ∧ fitE t ∧ Own w' lo 3 1 t.sl (t.1.fSeen.map encI)
theorem own_glue {w : World} {lo : Nat} {T : TypeId} {v : Value} {xs ys : List Int} {q : Nat} (h : Own w lo T 1 v (xs.map encI ++ ys.map encI)) (hx : xs.length ≤ q) (hy : ys.length = 1) : ∃ zs : List Int, zs.length ≤ q + 1 ∧ Own w lo T 1 v (zs.map encI) :=
  ⟨xs ++ ys, by rw [List.length_append]; omega, by rw [List.map_append]; exact h⟩
theorem entry_c (b : Nat) (cd : Cd) (k : Int) (id : Int) (w : World) (hC : Cu w b cd k) (hk : 0 ≤ k ∧ k ≤ 900000000000) (hid : -100000 ≤ id ∧ id ≤ 100000) :
    Calls Tryz.prog 87 #[.pointer (some ⟨b, 0, none⟩), .int .i64 id] w fun e w' => ∃ v, e = .returned v ∧ Ext (onB b) w w' ∧ RE w.heap.size w' v ∧ Cu w' b cd (k + 40) := by
  refine enterK (onB b) 62 Tryz.func87 rfl rfl rfl fun K hK => ?_
  have hb := hC.lt
  have h0 := hC
  repeat (any_goals (
    conv => whnf
    first
    | ((with_reducible intro w3 e3); have z3 := cutLe e3; replace hC := hC.e0 e3; (try have hne := fun k (hk : _ = some k) => (oB.block (k := k) hk).2); (try replace oB := oB.e0 e3))
    | ((with_reducible intro w3 e3); have z3 := cutLe e3; replace hC := hC.past h0 e3 (fun j hj e => by simp only [bk] at e; omega); (try replace oB := oB.ext e3 (fun k hk h => by have hh := hne k hk; simp only [bk] at h; omega)))
    | ((with_reducible refine bsI ?_ ?_ ?_ ?_ ?_); (focus rfl); (focus rfl); (focus omega); (focus rfl); intro w9 e9 oB; have z9 := cutLe e9; replace hC := hC.e0 e9; (try replace hown := hown.e0 e9); (try replace hown2 := hown2.e0 e9); (try replace hE := hE.trans (Ext.of0 e9)))
    | ((with_reducible refine bsT ?_ ?_ ?_ ?_ ?_); (focus rfl); (focus rfl); (focus omega); (focus rfl); intro w9 e9 oB; have z9 := cutLe e9; replace hC := hC.e0 e9; (try replace hown := hown.e0 e9); (try replace hown2 := hown2.e0 e9); (try replace hE := hE.trans (Ext.of0 e9)))
    | ((with_reducible refine callM (g := 89) ?_ ?_); kernel_rfl; refine ⟨onB _, _, (by repeat (first | exact trivial | (refine ⟨?_, ?_⟩; (focus (show ¬ _ = _; dsimp only; omega))))), (by first | exact fun _ _ hj => hj | (intro j hj hjb; unfold onB at hjb; exfalso; omega)), among_c _ _ _ _ _ _ _ (fun r => 0 ≤ r ∧ r ≤ 10000) _ hC (by omega) oB.row.1 (by first | rfl | (simp; omega)) (by omega) (notOn (by omega)) (by intro y hy; unfold intsOf at hy; simp at hy; omega), ?_⟩; intro r5 w5 e5 h5; have z5 := cutLe e5; obtain ⟨hr5, hC⟩ := h5; (try replace hown := hown.cur h0 (by omega) e5); (try replace hown2 := hown2.cur h0 (by omega) e5); (try replace oB := oB.cur h0 (by omega) e5); (try replace hE := hE.trans e5); obtain ⟨x5, rfl, hx5⟩ := hr5)
    | ((with_reducible refine callM (g := 104) ?_ ?_); kernel_rfl; refine ⟨onB _, _, (by repeat (first | exact trivial | (refine ⟨?_, ?_⟩; (focus (show ¬ _ = _; dsimp only; omega))))), (by first | exact fun _ _ hj => hj | (intro j hj hjb; unfold onB at hjb; exfalso; omega)), of_c _ _ _ _ _ _ _ _ hC (by omega) oB.row.1 (by first | rfl | (simp; omega)) (by omega) (notOn (by omega)) (by kernel_rfl), ?_⟩; intro r5 w5 e5 h5; have z5 := cutLe e5; obtain ⟨hr5, hC⟩ := h5; (try replace hown := hown.cur h0 (by omega) e5); (try replace hown2 := hown2.cur h0 (by omega) e5); (try replace oB := oB.cur h0 (by omega) e5); (try replace hE := hE.trans e5); obtain ⟨x5, rfl, hx5⟩ := hr5)
    | ((with_reducible refine BIF.dec ?_ ?_) <;> intro _)
    | ((with_reducible refine BIF.s ?_ ?_) <;> intro _)
    | (with_reducible refine NEXTK.normal ?_)
    | (with_reducible refine NEXTK.ret ?_)
    | (with_reducible refine NEXTK.exit ?_)
    | (with_reducible refine SEQ.plain ?_)
    | (with_reducible refine hK _ _ ?_)
    | ((with_reducible refine RUNL.agg (fun _ => ?_) ?_); (focus kernel_rfl))
    | (with_reducible refine RUNL.run ?_)
    | ((with_reducible refine AR.ok ?_ ?_); exact ⟨by first | omega | (dsimp only; omega), by first | omega | (dsimp only; omega)⟩)
    | (with_reducible refine AR.wr ?_)
    | ((with_reducible intro w3 e3); try have z3 := cutLe e3)
    | ((with_reducible intro h3); have h4 := Nat.le_of_lt h3; clear h4)))
  conv => whnf
  obtain ⟨g5, hg5⟩ : ∃ g5, g5 = w9.heap.size := ⟨_, rfl⟩
  have hne5 : ∀ k, (Value.slice (some ⟨w5.heap.size, 0, none⟩) 0 0).ownBlock = some k → ¬ k = g5 := fun k hk => by
    have h1 := hne k hk
    omega
  have hown : Own w3 w5.heap.size 3 1 (.slice (some ⟨w5.heap.size, 0, none⟩) 0 0) (([] : List Int).map encI) := oB
  obtain ⟨aQ, cQ, ys, hyl, hv, hy0⟩ : ∃ (aQ : Option Addr) (cQ : Nat) (ys : List Int), ys.length ≤ 0 ∧ Value.slice (some ⟨w5.heap.size, 0, none⟩) 0 0 = .slice aQ ys.length cQ ∧ ys = [] := ⟨_, _, [], Nat.le_refl _, rfl, rfl⟩
  rw [← hy0] at hown
  rw [hv] at hown hne5 ⊢
  clear oB hne hv hy0
  replace hown := hown.lo (lo' := w.heap.size + 1) (by omega)
  repeat (any_goals (
    conv => whnf
    first
    | ((with_reducible intro w3 e3); have z3 := cutLe e3; replace hC := hC.e0 e3; replace hown := hown.e0 e3; (try replace oB := oB.e0 e3))
    | ((with_reducible intro w3 e3); have z3 := cutLe e3; replace hC := hC.past h0 e3 (fun j hj e => by simp only [bk] at e; omega); replace hown := hown.ext e3 (by first | exact (fun k hk h => hne5 k hk (Eq.trans h hg5.symm)) | exact (fun k hk h => by have hh := (hown.block hk).1; simp only [bk] at h; omega)); (try replace oB := oB.ext e3 (fun k hk h => by have hh := (oB.block hk).1; simp only [bk] at h; omega)))
    | ((with_reducible refine bsI ?_ ?_ ?_ ?_ ?_); (focus rfl); (focus rfl); (focus omega); (focus rfl); intro w9 e9 oB; have z9 := cutLe e9; replace hC := hC.e0 e9; (try replace hown := hown.e0 e9); (try replace hown2 := hown2.e0 e9); (try replace hE := hE.trans (Ext.of0 e9)))
    | ((with_reducible refine bsT ?_ ?_ ?_ ?_ ?_); (focus rfl); (focus rfl); (focus omega); (focus rfl); intro w9 e9 oB; have z9 := cutLe e9; replace hC := hC.e0 e9; (try replace hown := hown.e0 e9); (try replace hown2 := hown2.e0 e9); (try replace hE := hE.trans (Ext.of0 e9)))
    | ((with_reducible refine callM (g := 89) ?_ ?_); kernel_rfl; refine ⟨onB _, _, (by repeat (first | exact trivial | (refine ⟨?_, ?_⟩; (focus (show ¬ _ = _; dsimp only; omega))))), (by first | exact fun _ _ hj => hj | (intro j hj hjb; unfold onB at hjb; exfalso; omega)), among_c _ _ _ _ _ _ _ (fun r => 0 ≤ r ∧ r ≤ 10000) _ hC (by omega) oB.row.1 (by first | rfl | (simp; omega)) (by omega) (notOn (by omega)) (by intro y hy; unfold intsOf at hy; simp at hy; omega), ?_⟩; intro r5 w5 e5 h5; have z5 := cutLe e5; obtain ⟨hr5, hC⟩ := h5; (try replace hown := hown.cur h0 (by omega) e5); (try replace hown2 := hown2.cur h0 (by omega) e5); (try replace oB := oB.cur h0 (by omega) e5); (try replace hE := hE.trans e5); obtain ⟨x5, rfl, hx5⟩ := hr5)
    | ((with_reducible refine callM (g := 104) ?_ ?_); kernel_rfl; refine ⟨onB _, _, (by repeat (first | exact trivial | (refine ⟨?_, ?_⟩; (focus (show ¬ _ = _; dsimp only; omega))))), (by first | exact fun _ _ hj => hj | (intro j hj hjb; unfold onB at hjb; exfalso; omega)), of_c _ _ _ _ _ _ _ _ hC (by omega) oB.row.1 (by first | rfl | (simp; omega)) (by omega) (notOn (by omega)) (by kernel_rfl), ?_⟩; intro r5 w5 e5 h5; have z5 := cutLe e5; obtain ⟨hr5, hC⟩ := h5; (try replace hown := hown.cur h0 (by omega) e5); (try replace hown2 := hown2.cur h0 (by omega) e5); (try replace oB := oB.cur h0 (by omega) e5); (try replace hE := hE.trans e5); obtain ⟨x5, rfl, hx5⟩ := hr5)
    | ((with_reducible refine callM (g := 86) ?_ ?_); kernel_rfl; refine ⟨onB _, _, (by repeat (first | exact trivial | (refine ⟨?_, ?_⟩; (focus (show ¬ _ = _; dsimp only; omega))))), (by first | exact fun _ _ hj => hj | (intro j hj hjb; unfold onB at hjb; exfalso; omega)), one_c _ _ _ _ _ hC (by omega), ?_⟩; intro r5 w5 e5 h5; have z5 := cutLe e5; obtain ⟨hr5, hC⟩ := h5; (try replace hown := hown.cur h0 (by omega) e5); (try replace hown2 := hown2.cur h0 (by omega) e5); (try replace oB := oB.cur h0 (by omega) e5); (try replace hE := hE.trans e5); obtain ⟨x5, rfl, hx5⟩ := hr5)
    | ((with_reducible refine callM (g := 88) ?_ ?_); kernel_rfl; refine ⟨onB _, _, (by repeat (first | exact trivial | (refine ⟨?_, ?_⟩; (focus (show ¬ _ = _; dsimp only; omega))))), (by first | exact fun _ _ hj => hj | (intro j hj hjb; unfold onB at hjb; exfalso; omega)), pick_c _ _ _ _ _ hC (by omega), ?_⟩; intro r5 w5 e5 h5; have z5 := cutLe e5; obtain ⟨hr5, hC⟩ := h5; (try replace hown := hown.cur h0 (by omega) e5); (try replace hown2 := hown2.cur h0 (by omega) e5); (try replace oB := oB.cur h0 (by omega) e5); (try replace hE := hE.trans e5); obtain ⟨x5, rfl, hx5⟩ := hr5)
    | ((with_reducible refine WOP.xb (fun hX hbx => ?_)); (with_reducible refine apS elemI hown oB.row.1 ?_ ?_ ?_ ?_ ?_ (fun v2 w2 x2 o2 => ?_)); (focus rfl); (focus exact (by intro l hl; obtain ⟨x, -, rfl⟩ := List.mem_map.1 hl; rfl)); (focus exact ⟨by simp; omega, by simp; omega⟩); (focus exact ⟨by show w.heap.size ≤ _; omega, by omega⟩); (focus exact ⟨fun h => by have := (hown.block h).1; dsimp only at this; omega, ⟨fun h => hne5 _ h hg5.symm, trivial⟩⟩); have z2 := cutLe x2; have hh5 := x2.heap (hbx 1 (Nat.lt_succ_self 1)) (fun h => hne5 _ h hg5.symm); replace hC := hC.own h0 x2 hown (by omega); replace hne5 : ∀ k, v2.ownBlock = some k → ¬ k = g5 := (fun k hk e => own_box o2 hh5 (show (3 : TypeId) ≠ 46 by decide) hk (e.trans hg5)); clear hbx hh5; obtain ⟨zs, hzl, o3⟩ := own_glue o2 hyl rfl; obtain ⟨b2, d2, rfl, q2, p2⟩ := o3.rowx; clear hown hyl o2 oB; have hown := o3; have hyl := hzl; clear o3 hzl)
    | ((with_reducible refine BIF.dec ?_ ?_) <;> intro _)
    | ((with_reducible refine BIF.s ?_ ?_) <;> intro _)
    | (with_reducible refine NEXTK.normal ?_)
    | (with_reducible refine NEXTK.ret ?_)
    | (with_reducible refine NEXTK.exit ?_)
    | (with_reducible refine SEQ.plain ?_)
    | (with_reducible refine hK _ _ ?_)
    | ((with_reducible refine RUNL.agg (fun _ => ?_) ?_); (focus kernel_rfl))
    | (with_reducible refine RUNL.run ?_)
    | ((with_reducible refine AR.ok ?_ ?_); exact ⟨by first | omega | (dsimp only; omega), by first | omega | (dsimp only; omega)⟩)
    | (with_reducible refine AR.wr ?_)
    | ((with_reducible intro w3 e3); try have z3 := cutLe e3)
    | ((with_reducible intro h3); have h4 := Nat.le_of_lt h3; clear h4)))
  all_goals
    intro hx
    first
    | exact ⟨_, rfl, hx, ⟨(⟨_, _, _, _, _, [9, 8]⟩, some _, 2), rfl, by unfold fitE; dsimp only [List.length_cons, List.length_nil]; omega, oB.lo (by omega)⟩, hC.mono (by omega)⟩
    | exact ⟨_, rfl, hx, ⟨(⟨_, _, _, _, _, [1, 2, 3, 4, 6, 7, 11, 13]⟩, some _, 8), rfl, by unfold fitE; dsimp only [List.length_cons, List.length_nil]; omega, oB.lo (by omega)⟩, hC.mono (by omega)⟩
    | exact ⟨_, rfl, hx, ⟨(⟨_, _, _, _, _, _⟩, _, _), rfl, by unfold fitE; dsimp only; omega, hown.lo (by omega)⟩, hC.mono (by omega)⟩

end Go.Proofs.YtpddilkonkkppaaGreatDoor

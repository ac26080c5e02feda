/- The draws of repairs. -/
import Derived.Test.YtgopcppegjhmiaaDoorRows
import Derived.Test.YtgopcppegjhmiaaDoorDraw2
namespace Go.Proofs.YtgopcppegjhmiaaDoor
open Go Go.X Go.Proofs Go.ChangeShapes Go.WideShapes Go.ChangeAt Go.RowKit
open Go.ChangeMaps (open_string shut_string)
set_option maxHeartbeats 1000000
set_option maxRecDepth 20000
set_option linter.unusedVariables false
set_option linter.unusedSimpArgs false
theorem repairs_c (b : Nat) (cd : Cd) (k : Int) (a : Option Addr) (n c : Nat) (xs : List Dmg) (w : World) (hC : Cu w b cd k) (hk : 0 ≤ k ∧ k ≤ 800000000000) (hr : Row w a 4 (xs.map encDmg)) (hn : xs.length = n) (hm : n ≤ 1000) (ha : n = 0 ∨ ¬ mAddr (onB b) a) (hf : ∀ x ∈ xs, fitDmg x) :
    Calls Tryd.prog 26 #[.pointer (some ⟨b, 0, none⟩), .slice a n c] w fun e w' => ∃ v, e = .returned v ∧ Ext (onB b) w w' ∧ RL encRep fitRep 27 3 w.heap.size 13 w' v ∧ Cu w' b cd (k + 400) := by
  refine enterK (onB b) 86 Tryd.func26 rfl rfl rfl fun K hK => ?_
  have hb := hC.lt
  have h0 := hC
  conv => whnf
  repeat (first | ((with_reducible refine NEXTK.normal ?_); conv => whnf) | ((with_reducible refine NEXTK.exit ?_); conv => whnf) | ((with_reducible refine NEXTK.ret ?_); conv => whnf) | ((with_reducible refine SEQ.plain ?_); conv => whnf) | ((with_reducible refine AR.ok ?_ ?_); exact ⟨by omega, by omega⟩; conv => whnf))
  refine bsS elemRep [] rfl rfl (by simp) (by omega) (fun w9 e9 hown => ?_)
  have z9 := cutLe e9
  replace hC := hC.e0 e9
  repeat (any_goals (
    conv => whnf
    first
    | ((with_reducible intro w3 e3); have z3 := cutLe e3; (try replace hC := (by first | exact hC.e0 e3 | exact hC.past h0 e3 (fun j hj e => by simp only [bk] at e; omega))); (try replace hown := (by first | exact hown.e0 e3 | exact hown.ext e3 (by intro kk hkk h; have hh := (hown.block hkk).1; simp only [bk] at h; omega))); (try replace hown2 := (by first | exact hown2.e0 e3 | exact hown2.ext e3 (by intro kk hkk h; have hh := (hown2.block hkk).1; simp only [bk] at h; omega))))
    | ((with_reducible refine bsI ?_ ?_ ?_ ?_ ?_); (focus rfl); (focus rfl); (focus omega); (focus rfl); intro w9 e9 oB; have z9 := cutLe e9; replace hC := hC.e0 e9; (try replace hown := hown.e0 e9); (try replace hown2 := hown2.e0 e9); (try replace hE := hE.trans (Ext.of0 e9)))
    | ((with_reducible refine callM (g := 27) ?_ ?_); kernel_rfl; refine ⟨onB _, _, (by repeat (first | exact trivial | (refine ⟨?_, ?_⟩; (focus (show ¬ _ = _; dsimp only; omega))))), (by first | exact fun _ _ hj => hj | (intro j hj hjb; unfold onB at hjb; exfalso; omega)), among_c _ _ _ _ _ _ _ (fun r => 0 ≤ r ∧ r ≤ 4000) _ hC (by omega) oB.row.1 (by first | rfl | (simp; omega)) (by omega) (notOn (by omega)) (by intro y hy; unfold intsOf at hy; simp at hy; omega), ?_⟩; intro r5 w5 e5 h5; have z5 := cutLe e5; obtain ⟨hr5, hC⟩ := h5; (try replace hown := hown.cur h0 (by omega) e5); (try replace hown2 := hown2.cur h0 (by omega) e5); (try replace oB := oB.cur h0 (by omega) e5); (try replace hE := hE.trans e5); obtain ⟨x5, rfl, hx5⟩ := hr5 ; obtain ⟨dy0, hdy0⟩ : ∃ z, z = x5 := ⟨_, rfl⟩)
    | ((with_reducible refine BIF.dec ?_ ?_) <;> intro _)
    | ((with_reducible refine BIF.s ?_ ?_) <;> intro _)
    | (with_reducible refine NEXTK.normal ?_)
    | (with_reducible refine NEXTK.ret ?_)
    | (with_reducible refine NEXTK.exit ?_)
    | (with_reducible refine SEQ.plain ?_)
    | (with_reducible refine hK _ _ ?_)
    | ((with_reducible refine RUNL.agg (fun _ => ?_) ?_); (focus kernel_rfl))
    | (with_reducible refine RUNL.run ?_)
    | ((with_reducible refine AR.ok ?_ ?_); exact ⟨by first | omega | (dsimp only; omega), by first | omega | (dsimp only; omega)⟩)
    | (with_reducible refine AR.wr ?_)
    | ((with_reducible intro w3 e3); try have z3 := cutLe e3)
    | ((with_reducible intro h3); have h4 := Nat.le_of_lt h3; clear h4)))
  conv => whnf
  replace hown : Own w5 w.heap.size 27 3 (.slice (some ⟨w.heap.size, 0, none⟩) 0 0) (([] : List Rep).map encRep) := hown
  have hx50 := hx5
  rw [← hdy0] at hx50 ⊢
  repeat (any_goals (
    conv => whnf
    first
    | ((with_reducible intro w3 e3); have z3 := cutLe e3; (try replace hC := (by first | exact hC.e0 e3 | exact hC.past h0 e3 (fun j hj e => by simp only [bk] at e; omega))); (try replace hown := (by first | exact hown.e0 e3 | exact hown.ext e3 (by intro kk hkk h; have hh := (hown.block hkk).1; simp only [bk] at h; omega))); (try replace hown2 := (by first | exact hown2.e0 e3 | exact hown2.ext e3 (by intro kk hkk h; have hh := (hown2.block hkk).1; simp only [bk] at h; omega))))
    | ((with_reducible refine callM (g := 28) ?_ ?_); kernel_rfl; refine ⟨onB _, _, (by repeat (first | exact trivial | (refine ⟨?_, ?_⟩; (focus (show ¬ _ = _; dsimp only; omega))))), (by first | exact fun _ _ hj => hj | (intro j hj hjb; unfold onB at hjb; exfalso; omega)), pick_c _ _ _ _ _ hC (by omega), ?_⟩; intro r5 w5 e5 h5; have z5 := cutLe e5; obtain ⟨hr5, hC⟩ := h5; (try replace hown := hown.cur h0 (by omega) e5); (try replace hown2 := hown2.cur h0 (by omega) e5); (try replace oB := oB.cur h0 (by omega) e5); (try replace hE := hE.trans e5); obtain ⟨x5, rfl, hx5⟩ := hr5)
    | ((with_reducible refine BIF.dec ?_ ?_) <;> intro _)
    | ((with_reducible refine BIF.s ?_ ?_) <;> intro _)
    | (with_reducible refine NEXTK.normal ?_)
    | (with_reducible refine NEXTK.ret ?_)
    | (with_reducible refine NEXTK.exit ?_)
    | (with_reducible refine SEQ.plain ?_)
    | (with_reducible refine hK _ _ ?_)
    | ((with_reducible refine RUNL.agg (fun _ => ?_) ?_); (focus kernel_rfl))
    | (with_reducible refine RUNL.run ?_)
    | ((with_reducible refine AR.ok ?_ ?_); exact ⟨by first | omega | (dsimp only; omega), by first | omega | (dsimp only; omega)⟩)
    | (with_reducible refine AR.wr ?_)
    | ((with_reducible intro w3 e3); try have z3 := cutLe e3)
    | ((with_reducible intro h3); have h4 := Nat.le_of_lt h3; clear h4)))
  conv => whnf
  obtain ⟨n0, hn0, hn1⟩ : ∃ n0 : Int, n0 = x5 ∧ 0 ≤ n0 ∧ n0 ≤ 7 := ⟨x5, rfl, by omega, by omega⟩
  refine LOOP.mk (Nat × (Option Addr × Nat) × List Rep × Int) (fun g => [(5, .v (.slice g.2.1.1 g.2.2.1.length g.2.1.2)), (6, .v (.int .i64 g.2.2.2)), (7, .v (.int .i64 (n0 - g.1)))])
    (fun g wr => g.1 ≤ n0 ∧ w.heap.size ≤ wr.heap.size ∧ g.2.2.1.length ≤ g.1 ∧ (∀ x ∈ g.2.2.1, fitRep x) ∧ (-g.1 ≤ g.2.2.2 ∧ g.2.2.2 ≤ 4000 + 100 * g.1) ∧ Own wr w.heap.size 27 3 (.slice g.2.1.1 g.2.2.1.length g.2.1.2) (g.2.2.1.map encRep) ∧ Cu wr b cd (k + 4 + 30 * g.1)) (fun g => (n0 - g.1).toNat) (0, (some ⟨w.heap.size, 0, none⟩, 0), [], dy0) rfl ⟨rfl, rfl, by rw [hn0]; simp [lk, Nat.beq], trivial⟩ ⟨by simp only; omega, by show w.heap.size ≤ w5.heap.size; omega, by simp, by simp, by simp only; omega, hown, hC.mono (by simp only; omega)⟩ ?_
  clear hown hC
  rintro ⟨j, ⟨a1, c1⟩, ys, dy⟩ wr - ⟨hj, hz, hlen, hfit, hdy, hown, hC⟩
  simp only at hj hz hlen hfit hdy hown hC
  dsimp only
  have oL := fun k h => hown.block (k := k) h
  conv => whnf
  repeat (first | ((with_reducible refine NEXTK.normal ?_); conv => whnf) | ((with_reducible refine NEXTK.exit ?_); conv => whnf) | ((with_reducible refine NEXTK.ret ?_); conv => whnf) | ((with_reducible refine SEQ.plain ?_); conv => whnf) | ((with_reducible refine AR.ok ?_ ?_); exact ⟨by omega, by omega⟩; conv => whnf))
  refine BIF.dec (fun hlt => ?_) (fun hlt => ?_)
  · repeat (any_goals (
      conv => whnf
      first
      | ((with_reducible intro w3 e3); have z3 := cutLe e3; replace hC := (by first | exact hC.e0 e3 | exact hC.past h0 e3 (fun j hj e => by simp only [bk] at e; omega)); replace hown := hown.ext e3 (by first | exact fun _ _ h => h | (intro k hk h; have hh := oL k hk; simp only [bk] at h; omega)))
      | ((with_reducible refine callMX (g := 30) ?_ ?_); kernel_rfl; refine ⟨onB _, _, (by repeat (first | exact trivial | (refine ⟨?_, ?_⟩; (focus (show ¬ _ = _; dsimp only; omega))))), (by first | exact fun _ _ hj => hj | (intro j hj hjb; unfold onB at hjb; exfalso; omega)), fun hX => damaged_c _ _ _ _ _ _ xs _ hC (by omega) (rowOff hr hn ha hX) hn hm ha hf, ?_⟩; intro r5 w5 e5 h5; have z5 := cutLe e5; obtain ⟨hr5, hC⟩ := h5; (try replace hown := hown.cur h0 (by omega) e5); (try replace hown2 := hown2.cur h0 (by omega) e5); (try replace oB := oB.cur h0 (by omega) e5); (try replace hE := hE.trans e5); obtain ⟨x5, rfl, hx5⟩ := hr5 ; generalize x5 = rs at * ; (have hrs := hx5); unfold I64 at hrs)
      | ((with_reducible refine callM (g := 28) ?_ ?_); kernel_rfl; refine ⟨onB _, _, (by repeat (first | exact trivial | (refine ⟨?_, ?_⟩; (focus (show ¬ _ = _; dsimp only; omega))))), (by first | exact fun _ _ hj => hj | (intro j hj hjb; unfold onB at hjb; exfalso; omega)), pick_c _ _ _ _ _ hC (by omega), ?_⟩; intro r5 w5 e5 h5; have z5 := cutLe e5; obtain ⟨hr5, hC⟩ := h5; (try replace hown := hown.cur h0 (by omega) e5); (try replace hown2 := hown2.cur h0 (by omega) e5); (try replace oB := oB.cur h0 (by omega) e5); (try replace hE := hE.trans e5); obtain ⟨x5, rfl, hx5⟩ := hr5 ; generalize x5 = wk at *)
      | ((with_reducible refine BIF.dec ?_ ?_) <;> intro _)
      | ((with_reducible refine BIF.s ?_ ?_) <;> intro _)
      | (with_reducible refine NEXTK.normal ?_)
      | (with_reducible refine NEXTK.ret ?_)
      | (with_reducible refine NEXTK.exit ?_)
      | (with_reducible refine SEQ.plain ?_)
      | (with_reducible refine hK _ _ ?_)
      | ((with_reducible refine RUNL.agg (fun _ => ?_) ?_); (focus kernel_rfl))
      | (with_reducible refine RUNL.run ?_)
      | ((with_reducible refine AR.ok ?_ ?_); exact ⟨by first | omega | (dsimp only; omega), by first | omega | (dsimp only; omega)⟩)
      | (with_reducible refine AR.wr ?_)
      | ((with_reducible intro w3 e3); try have z3 := cutLe e3)
      | ((with_reducible intro h3); have h4 := Nat.le_of_lt h3; clear h4)))
    obtain ⟨sX, hsX⟩ : ∃ sX, sX = w3.heap.size := ⟨_, rfl⟩
    repeat (any_goals (
      conv => whnf
      first
      | ((with_reducible intro w3 e3); have z3 := cutLe e3; replace hC := (by first | exact hC.e0 e3 | exact hC.past h0 e3 (fun j hj e => by simp only [bk] at e; omega)); replace hown := hown.ext e3 (by first | exact fun _ _ h => h | (intro k hk h; have hh := oL k hk; simp only [bk] at h; omega)))
      | ((with_reducible refine callM (g := 29) ?_ ?_); kernel_rfl; refine ⟨onB _, _, (by repeat (first | exact trivial | (refine ⟨?_, ?_⟩; (focus (show ¬ _ = _; dsimp only; omega))))), (by first | exact fun _ _ hj => hj | (intro j hj hjb; unfold onB at hjb; exfalso; omega)), one_c _ _ _ _ _ hC (by omega), ?_⟩; intro r5 w5 e5 h5; have z5 := cutLe e5; obtain ⟨hr5, hC⟩ := h5; (try replace hown := hown.cur h0 (by omega) e5); (try replace hown2 := hown2.cur h0 (by omega) e5); (try replace oB := oB.cur h0 (by omega) e5); (try replace hE := hE.trans e5); obtain ⟨x5, rfl, hx5⟩ := hr5)
      | ((with_reducible refine bsI ?_ ?_ ?_ ?_ ?_); (focus rfl); (focus rfl); (focus omega); (focus rfl); intro w9 e9 oB; have z9 := cutLe e9; replace hC := hC.e0 e9; (try replace hown := hown.e0 e9); (try replace hown2 := hown2.e0 e9); (try replace hE := hE.trans (Ext.of0 e9)))
      | ((with_reducible refine callM (g := 27) ?_ ?_); kernel_rfl; refine ⟨onB _, _, (by repeat (first | exact trivial | (refine ⟨?_, ?_⟩; (focus (show ¬ _ = _; dsimp only; omega))))), (by first | exact fun _ _ hj => hj | (intro j hj hjb; unfold onB at hjb; exfalso; omega)), among_c _ _ _ _ _ _ _ (fun r => 0 ≤ r ∧ r ≤ 5) _ hC (by omega) oB.row.1 (by first | rfl | (simp; omega)) (by omega) (notOn (by omega)) (by intro y hy; unfold intsOf at hy; simp at hy; omega), ?_⟩; intro r5 w5 e5 h5; have z5 := cutLe e5; obtain ⟨hr5, hC⟩ := h5; (try replace hown := hown.cur h0 (by omega) e5); (try replace hown2 := hown2.cur h0 (by omega) e5); (try replace oB := oB.cur h0 (by omega) e5); (try replace hE := hE.trans e5); obtain ⟨x5, rfl, hx5⟩ := hr5)
      | ((with_reducible refine BIF.dec ?_ ?_) <;> intro _)
      | ((with_reducible refine BIF.s ?_ ?_) <;> intro _)
      | (with_reducible refine NEXTK.normal ?_)
      | (with_reducible refine NEXTK.ret ?_)
      | (with_reducible refine NEXTK.exit ?_)
      | (with_reducible refine SEQ.plain ?_)
      | (with_reducible refine hK _ _ ?_)
      | ((with_reducible refine RUNL.agg (fun _ => ?_) ?_); (focus kernel_rfl))
      | (with_reducible refine RUNL.run ?_)
      | ((with_reducible refine AR.ok ?_ ?_); exact ⟨by first | omega | (dsimp only; omega), by first | omega | (dsimp only; omega)⟩)
      | (with_reducible refine AR.wr ?_)
      | ((with_reducible intro w3 e3); try have z3 := cutLe e3)
      | ((with_reducible intro h3); have h4 := Nat.le_of_lt h3; clear h4)))
    · repeat (any_goals (
        conv => whnf
        first
        | ((with_reducible intro w3 e3); have z3 := cutLe e3; replace hC := (by first | exact hC.e0 e3 | exact hC.past h0 e3 (fun j hj e => by simp only [bk] at e; omega)); replace hown := hown.ext e3 (by first | exact fun _ _ h => h | (intro k hk h; have hh := oL k hk; simp only [bk] at h; omega)))
        | ((with_reducible refine DRAW.plan (id := 9) (.one 1 (.start (.alt 0 (.start (.alt 2 (.start (.alt 3 (.start (.alt 4 (.start (.alt 5 (.one 6 .done) .stop)) .stop)) .stop)) (.alt 3 (.start (.alt 2 (.start (.alt 4 (.start (.alt 5 (.one 6 .done) .stop)) .stop)) (.alt 4 (.start (.alt 2 (.start (.alt 5 (.one 6 .done) .stop)) .stop)) .stop))) .stop))) (.alt 3 (.start (.alt 0 (.start (.alt 2 (.start (.alt 4 (.start (.alt 5 (.one 6 .done) .stop)) .stop)) (.alt 4 (.start (.alt 2 (.start (.alt 5 (.one 6 .done) .stop)) .stop)) .stop))) (.alt 4 (.start (.alt 0 (.start (.alt 2 (.start (.alt 5 (.one 6 .done) .stop)) .stop)) .stop)) .stop))) .stop)))) ?_ ?_ ?_ ?_); kernel_rfl; kernel_rfl; kernel_rfl)
        | (with_reducible refine And.intro ?_ ?_)
        | (exact True.intro)
        | ((with_reducible refine bsS elemRep [] rfl rfl (by simp) (by omega) (fun w9 e9 oC => ?_)); have z9 := cutLe e9; (try have apBC := oB.apart oC); replace hC := hC.e0 e9; replace hown := hown.e0 e9; (try replace oB := oB.e0 e9))
        | ((with_reducible refine bsS elemRep [.agg (encRep ⟨rs, x5, dy⟩).toArray] ?_ ?_ ?_ ?_ ?_); (focus rfl); (focus rfl); (focus (intro v hv; simp at hv; subst hv; rfl)); (focus omega); intro w9 e9 oB; have z9 := cutLe e9; (try have apCB := oC.apart oB); replace hC := hC.e0 e9; replace hown := hown.e0 e9; (try replace oC := oC.e0 e9); (try replace o2 := o2.e0 e9))
        | ((with_reducible refine apS (ns := (ys).map encRep) elemRep oC ?_ ?_ ?_ ?_ ?_ ?_ (fun v2 w2 x2 o2 => ?_)); (focus exact hown.row.1); (focus (simp; done)); (focus exact (by intro l hl; obtain ⟨x, -, rfl⟩ := List.mem_map.1 hl; rfl)); (focus exact ⟨by simp; omega, by simp; omega⟩); (focus exact ⟨(by show w.heap.size ≤ _; omega), by omega⟩); (focus exact ⟨fun h => by have := (oC.block h).1; dsimp only at this; omega, trivial⟩); have z2 := cutLe x2; (try replace oB := oB.past x2 (by first | exact apBC | exact ne_symm' apCB)); have oK := fun k h => oC.block (k := k) h; replace hown := hown.past x2 (fun k h1 h2 => by have := (oL k h1).2; have := (oK k h2).1; omega); replace hC := hC.own h0 x2 oC (by omega); clear oC; replace o2 : Own w2 sX 27 3 v2 ((ys).map encRep) := (by simpa using o2.lo (by omega)); obtain ⟨b2, d2, rfl, q2, p2⟩ := o2.rowx)
        | ((with_reducible refine apS (ns := [encRep ⟨rs, x5, dy⟩]) elemRep o2 ?_ ?_ ?_ ?_ ?_ ?_ (fun v5 w5 xv5 o5 => ?_)); (focus exact oB.row.1); (focus rfl); (focus (intro l hl; simp at hl; subst hl; rfl)); (focus exact ⟨by simp; omega, by simp; omega⟩); (focus exact ⟨by show w.heap.size ≤ _; omega, by omega⟩); (focus exact ⟨fun h => by have := (o2.block h).1; dsimp only at this; omega, trivial⟩); have z5 := cutLe xv5; have oK2 := fun k h => o2.block (k := k) h; replace hown := hown.past xv5 (fun k h1 h2 => by have := (oL k h1).2; have := (oK2 k h2).1; omega); replace hC := hC.own h0 xv5 o2 (by omega); clear o2; replace o5 : Own w5 sX 27 3 v5 ((ys ++ [(⟨rs, x5, dy⟩ : Rep)]).map encRep) := (by simpa using o5))
        | ((with_reducible refine BIF.dec ?_ ?_) <;> intro _)
        | ((with_reducible refine BIF.s ?_ ?_) <;> intro _)
        | (with_reducible refine NEXTK.normal ?_)
        | (with_reducible refine NEXTK.ret ?_)
        | (with_reducible refine NEXTK.exit ?_)
        | (with_reducible refine SEQ.plain ?_)
        | (with_reducible refine hK _ _ ?_)
        | ((with_reducible refine RUNL.agg (fun _ => ?_) ?_); (focus kernel_rfl))
        | (with_reducible refine RUNL.run ?_)
        | ((with_reducible refine AR.ok ?_ ?_); exact ⟨by first | omega | (dsimp only; omega), by first | omega | (dsimp only; omega)⟩)
        | (with_reducible refine AR.wr ?_)
        | ((with_reducible intro w3 e3); try have z3 := cutLe e3)
        | ((with_reducible intro h3); have h4 := Nat.le_of_lt h3; clear h4)))
      all_goals
        obtain ⟨zs, hzs⟩ : ∃ zs, zs = ys ++ [(⟨rs, x5, dy⟩ : Rep)] := ⟨_, rfl⟩
        rw [← hzs] at o5
        have hzf : ∀ x ∈ zs, fitRep x := by
          rw [hzs]; intro x hx; rcases List.mem_append.1 hx with h | h
          · exact hfit x h
          · rw [List.mem_singleton.1 h]; unfold fitRep; dsimp only; omega
        have hzl : zs.length = ys.length + 1 := by rw [hzs]; simp
        replace o5 := o5.lo (lo' := w.heap.size) (by omega)
        obtain ⟨b5, d5, rfl, q5, p5⟩ := o5.rowx
        have oL5 := fun k h => o5.block (k := k) h
        repeat (any_goals (
          conv => whnf
          first
          | ((with_reducible intro w3 e3); have z3 := cutLe e3; replace hC := (by first | exact hC.e0 e3 | exact hC.past h0 e3 (fun j hj e => by simp only [bk] at e; omega)); replace hown := hown.ext e3 (by first | exact fun _ _ h => h | (intro k hk h; have hh := oL k hk; simp only [bk] at h; omega)); replace o5 := o5.ext e3 (by first | exact fun _ _ h => h | (intro k hk h; have hh := oL5 k hk; simp only [bk] at h; omega)))
          | ((with_reducible refine callX (g := 33) ?_ ?_); kernel_rfl; intro hX; refine ⟨_, l22Good_c _ _ _ _ _ _ xs zs _ (rowOff hr hn ha hX) o5.row.1 hn rfl (by omega) (by omega) p5, ?_⟩; intro w4 e4; have z4 := cutLe e4; clear hX ; replace hC := hC.e0 e4 ; replace hown := hown.e0 e4 ; replace o5 := o5.e0 e4)
          | ((with_reducible refine callM (g := 29) ?_ ?_); kernel_rfl; refine ⟨onB _, _, (by repeat (first | exact trivial | (refine ⟨?_, ?_⟩; (focus (show ¬ _ = _; dsimp only; omega))))), (by first | exact fun _ _ hj => hj | (intro j hj hjb; unfold onB at hjb; exfalso; omega)), one_c _ _ _ _ _ hC (by omega), ?_⟩; intro r5 w5 e5 h5; have z5 := cutLe e5; obtain ⟨hr5, hC⟩ := h5; (try replace hown := hown.cur h0 (by omega) e5); (try replace hown2 := hown2.cur h0 (by omega) e5); (try replace oB := oB.cur h0 (by omega) e5); (try replace hE := hE.trans e5); obtain ⟨x5, rfl, hx5⟩ := hr5 ; (try replace o5 := o5.cur h0 (by omega) e5))
          | ((with_reducible refine bsI ?_ ?_ ?_ ?_ ?_); (focus rfl); (focus rfl); (focus omega); (focus rfl); intro w9 e9 oB; have z9 := cutLe e9; replace hC := hC.e0 e9; (try replace hown := hown.e0 e9); (try replace hown2 := hown2.e0 e9); (try replace hE := hE.trans (Ext.of0 e9)) ; replace o5 := o5.e0 e9)
          | ((with_reducible refine callM (g := 27) ?_ ?_); kernel_rfl; refine ⟨onB _, _, (by repeat (first | exact trivial | (refine ⟨?_, ?_⟩; (focus (show ¬ _ = _; dsimp only; omega))))), (by first | exact fun _ _ hj => hj | (intro j hj hjb; unfold onB at hjb; exfalso; omega)), among_c _ _ _ _ _ _ _ (fun r => 0 ≤ r ∧ r ≤ 100) _ hC (by omega) oB.row.1 (by first | rfl | (simp; omega)) (by omega) (notOn (by omega)) (by intro y hy; unfold intsOf at hy; simp at hy; omega), ?_⟩; intro r5 w5 e5 h5; have z5 := cutLe e5; obtain ⟨hr5, hC⟩ := h5; (try replace hown := hown.cur h0 (by omega) e5); (try replace hown2 := hown2.cur h0 (by omega) e5); (try replace oB := oB.cur h0 (by omega) e5); (try replace hE := hE.trans e5); obtain ⟨x5, rfl, hx5⟩ := hr5 ; (try replace o5 := o5.cur h0 (by omega) e5))
          | ((with_reducible refine callM (g := 28) ?_ ?_); kernel_rfl; refine ⟨onB _, _, (by repeat (first | exact trivial | (refine ⟨?_, ?_⟩; (focus (show ¬ _ = _; dsimp only; omega))))), (by first | exact fun _ _ hj => hj | (intro j hj hjb; unfold onB at hjb; exfalso; omega)), pick_c _ _ _ _ _ hC (by omega), ?_⟩; intro r5 w5 e5 h5; have z5 := cutLe e5; obtain ⟨hr5, hC⟩ := h5; (try replace hown := hown.cur h0 (by omega) e5); (try replace hown2 := hown2.cur h0 (by omega) e5); (try replace oB := oB.cur h0 (by omega) e5); (try replace hE := hE.trans e5); obtain ⟨x5, rfl, hx5⟩ := hr5 ; (try replace o5 := o5.cur h0 (by omega) e5))
          | ((with_reducible refine OBL.mk (o := ((149 : Int) ≠ 0)) ?_ (fun _ => ?_)); (focus decide); have td5 := tdiv_b (x := x5) (m := 149) (by omega) (by omega))
          | ((with_reducible refine BIF.dec ?_ ?_) <;> intro _)
          | ((with_reducible refine BIF.s ?_ ?_) <;> intro _)
          | (with_reducible refine NEXTK.normal ?_)
          | (with_reducible refine NEXTK.ret ?_)
          | (with_reducible refine NEXTK.exit ?_)
          | (with_reducible refine SEQ.plain ?_)
          | (with_reducible refine hK _ _ ?_)
          | ((with_reducible refine RUNL.agg (fun _ => ?_) ?_); (focus kernel_rfl))
          | (with_reducible refine RUNL.run ?_)
          | ((with_reducible refine AR.ok ?_ ?_); exact ⟨by first | omega | (dsimp only; omega), by first | omega | (dsimp only; omega)⟩)
          | (with_reducible refine AR.wr ?_)
          | ((with_reducible intro w3 e3); try have z3 := cutLe e3)
          | ((with_reducible intro h3); have h4 := Nat.le_of_lt h3; clear h4)))
        all_goals first
          | (refine ⟨(j + 1, (b5, d5), zs, _), rfl, ⟨rfl, rfl, ?_, trivial⟩, rfl, rfl, ⟨by simp only; omega, by dsimp only; omega, by simp only; omega, hzf, by simp only; omega, o5, hC.mono (by simp only; omega)⟩, by simp only; omega⟩
             refine congrArg (fun z => TV.v (Value.int .i64 z)) ?_
             simp only
             omega)
          | (refine ⟨(j + 1, (a1, c1), ys, _), rfl, ⟨rfl, rfl, ?_, trivial⟩, rfl, rfl, ⟨by simp only; omega, by dsimp only; omega, by simp only; omega, hfit, by simp only; omega, hown, hC.mono (by simp only; omega)⟩, by simp only; omega⟩
             refine congrArg (fun z => TV.v (Value.int .i64 z)) ?_
             simp only
             omega)
    · repeat (any_goals (
        conv => whnf
        first
        | ((with_reducible intro w3 e3); have z3 := cutLe e3; replace hC := (by first | exact hC.e0 e3 | exact hC.past h0 e3 (fun j hj e => by simp only [bk] at e; omega)); replace hown := hown.ext e3 (by first | exact fun _ _ h => h | (intro k hk h; have hh := oL k hk; simp only [bk] at h; omega)))
        | ((with_reducible refine DRAW.plan (id := 9) (.one 1 (.start (.alt 0 (.start (.alt 2 (.start (.alt 3 (.start (.alt 4 (.start (.alt 5 (.one 6 .done) .stop)) .stop)) .stop)) (.alt 3 (.start (.alt 2 (.start (.alt 4 (.start (.alt 5 (.one 6 .done) .stop)) .stop)) (.alt 4 (.start (.alt 2 (.start (.alt 5 (.one 6 .done) .stop)) .stop)) .stop))) .stop))) (.alt 3 (.start (.alt 0 (.start (.alt 2 (.start (.alt 4 (.start (.alt 5 (.one 6 .done) .stop)) .stop)) (.alt 4 (.start (.alt 2 (.start (.alt 5 (.one 6 .done) .stop)) .stop)) .stop))) (.alt 4 (.start (.alt 0 (.start (.alt 2 (.start (.alt 5 (.one 6 .done) .stop)) .stop)) .stop)) .stop))) .stop)))) ?_ ?_ ?_ ?_); kernel_rfl; kernel_rfl; kernel_rfl)
        | (with_reducible refine And.intro ?_ ?_)
        | (exact True.intro)
        | ((with_reducible refine bsS elemRep [] rfl rfl (by simp) (by omega) (fun w9 e9 oC => ?_)); have z9 := cutLe e9; (try have apBC := oB.apart oC); replace hC := hC.e0 e9; replace hown := hown.e0 e9; (try replace oB := oB.e0 e9))
        | ((with_reducible refine bsS elemRep [.agg (encRep ⟨rs, 1 + wk, dy⟩).toArray] ?_ ?_ ?_ ?_ ?_); (focus rfl); (focus rfl); (focus (intro v hv; simp at hv; subst hv; rfl)); (focus omega); intro w9 e9 oB; have z9 := cutLe e9; (try have apCB := oC.apart oB); replace hC := hC.e0 e9; replace hown := hown.e0 e9; (try replace oC := oC.e0 e9); (try replace o2 := o2.e0 e9))
        | ((with_reducible refine apS (ns := (ys).map encRep) elemRep oC ?_ ?_ ?_ ?_ ?_ ?_ (fun v2 w2 x2 o2 => ?_)); (focus exact hown.row.1); (focus (simp; done)); (focus exact (by intro l hl; obtain ⟨x, -, rfl⟩ := List.mem_map.1 hl; rfl)); (focus exact ⟨by simp; omega, by simp; omega⟩); (focus exact ⟨(by show w.heap.size ≤ _; omega), by omega⟩); (focus exact ⟨fun h => by have := (oC.block h).1; dsimp only at this; omega, trivial⟩); have z2 := cutLe x2; (try replace oB := oB.past x2 (by first | exact apBC | exact ne_symm' apCB)); have oK := fun k h => oC.block (k := k) h; replace hown := hown.past x2 (fun k h1 h2 => by have := (oL k h1).2; have := (oK k h2).1; omega); replace hC := hC.own h0 x2 oC (by omega); clear oC; replace o2 : Own w2 sX 27 3 v2 ((ys).map encRep) := (by simpa using o2.lo (by omega)); obtain ⟨b2, d2, rfl, q2, p2⟩ := o2.rowx)
        | ((with_reducible refine apS (ns := [encRep ⟨rs, 1 + wk, dy⟩]) elemRep o2 ?_ ?_ ?_ ?_ ?_ ?_ (fun v5 w5 xv5 o5 => ?_)); (focus exact oB.row.1); (focus rfl); (focus (intro l hl; simp at hl; subst hl; rfl)); (focus exact ⟨by simp; omega, by simp; omega⟩); (focus exact ⟨by show w.heap.size ≤ _; omega, by omega⟩); (focus exact ⟨fun h => by have := (o2.block h).1; dsimp only at this; omega, trivial⟩); have z5 := cutLe xv5; have oK2 := fun k h => o2.block (k := k) h; replace hown := hown.past xv5 (fun k h1 h2 => by have := (oL k h1).2; have := (oK2 k h2).1; omega); replace hC := hC.own h0 xv5 o2 (by omega); clear o2; replace o5 : Own w5 sX 27 3 v5 ((ys ++ [(⟨rs, 1 + wk, dy⟩ : Rep)]).map encRep) := (by simpa using o5))
        | ((with_reducible refine BIF.dec ?_ ?_) <;> intro _)
        | ((with_reducible refine BIF.s ?_ ?_) <;> intro _)
        | (with_reducible refine NEXTK.normal ?_)
        | (with_reducible refine NEXTK.ret ?_)
        | (with_reducible refine NEXTK.exit ?_)
        | (with_reducible refine SEQ.plain ?_)
        | (with_reducible refine hK _ _ ?_)
        | ((with_reducible refine RUNL.agg (fun _ => ?_) ?_); (focus kernel_rfl))
        | (with_reducible refine RUNL.run ?_)
        | ((with_reducible refine AR.ok ?_ ?_); exact ⟨by first | omega | (dsimp only; omega), by first | omega | (dsimp only; omega)⟩)
        | (with_reducible refine AR.wr ?_)
        | ((with_reducible intro w3 e3); try have z3 := cutLe e3)
        | ((with_reducible intro h3); have h4 := Nat.le_of_lt h3; clear h4)))
      all_goals
        obtain ⟨zs, hzs⟩ : ∃ zs, zs = ys ++ [(⟨rs, 1 + wk, dy⟩ : Rep)] := ⟨_, rfl⟩
        rw [← hzs] at o5
        have hzf : ∀ x ∈ zs, fitRep x := by
          rw [hzs]; intro x hx; rcases List.mem_append.1 hx with h | h
          · exact hfit x h
          · rw [List.mem_singleton.1 h]; unfold fitRep; dsimp only; omega
        have hzl : zs.length = ys.length + 1 := by rw [hzs]; simp
        replace o5 := o5.lo (lo' := w.heap.size) (by omega)
        obtain ⟨b5, d5, rfl, q5, p5⟩ := o5.rowx
        have oL5 := fun k h => o5.block (k := k) h
        repeat (any_goals (
          conv => whnf
          first
          | ((with_reducible intro w3 e3); have z3 := cutLe e3; replace hC := (by first | exact hC.e0 e3 | exact hC.past h0 e3 (fun j hj e => by simp only [bk] at e; omega)); replace hown := hown.ext e3 (by first | exact fun _ _ h => h | (intro k hk h; have hh := oL k hk; simp only [bk] at h; omega)); replace o5 := o5.ext e3 (by first | exact fun _ _ h => h | (intro k hk h; have hh := oL5 k hk; simp only [bk] at h; omega)))
          | ((with_reducible refine callX (g := 33) ?_ ?_); kernel_rfl; intro hX; refine ⟨_, l22Good_c _ _ _ _ _ _ xs zs _ (rowOff hr hn ha hX) o5.row.1 hn rfl (by omega) (by omega) p5, ?_⟩; intro w4 e4; have z4 := cutLe e4; clear hX ; replace hC := hC.e0 e4 ; replace hown := hown.e0 e4 ; replace o5 := o5.e0 e4)
          | ((with_reducible refine callM (g := 29) ?_ ?_); kernel_rfl; refine ⟨onB _, _, (by repeat (first | exact trivial | (refine ⟨?_, ?_⟩; (focus (show ¬ _ = _; dsimp only; omega))))), (by first | exact fun _ _ hj => hj | (intro j hj hjb; unfold onB at hjb; exfalso; omega)), one_c _ _ _ _ _ hC (by omega), ?_⟩; intro r5 w5 e5 h5; have z5 := cutLe e5; obtain ⟨hr5, hC⟩ := h5; (try replace hown := hown.cur h0 (by omega) e5); (try replace hown2 := hown2.cur h0 (by omega) e5); (try replace oB := oB.cur h0 (by omega) e5); (try replace hE := hE.trans e5); obtain ⟨x5, rfl, hx5⟩ := hr5 ; (try replace o5 := o5.cur h0 (by omega) e5))
          | ((with_reducible refine bsI ?_ ?_ ?_ ?_ ?_); (focus rfl); (focus rfl); (focus omega); (focus rfl); intro w9 e9 oB; have z9 := cutLe e9; replace hC := hC.e0 e9; (try replace hown := hown.e0 e9); (try replace hown2 := hown2.e0 e9); (try replace hE := hE.trans (Ext.of0 e9)) ; replace o5 := o5.e0 e9)
          | ((with_reducible refine callM (g := 27) ?_ ?_); kernel_rfl; refine ⟨onB _, _, (by repeat (first | exact trivial | (refine ⟨?_, ?_⟩; (focus (show ¬ _ = _; dsimp only; omega))))), (by first | exact fun _ _ hj => hj | (intro j hj hjb; unfold onB at hjb; exfalso; omega)), among_c _ _ _ _ _ _ _ (fun r => 0 ≤ r ∧ r ≤ 100) _ hC (by omega) oB.row.1 (by first | rfl | (simp; omega)) (by omega) (notOn (by omega)) (by intro y hy; unfold intsOf at hy; simp at hy; omega), ?_⟩; intro r5 w5 e5 h5; have z5 := cutLe e5; obtain ⟨hr5, hC⟩ := h5; (try replace hown := hown.cur h0 (by omega) e5); (try replace hown2 := hown2.cur h0 (by omega) e5); (try replace oB := oB.cur h0 (by omega) e5); (try replace hE := hE.trans e5); obtain ⟨x5, rfl, hx5⟩ := hr5 ; (try replace o5 := o5.cur h0 (by omega) e5))
          | ((with_reducible refine callM (g := 28) ?_ ?_); kernel_rfl; refine ⟨onB _, _, (by repeat (first | exact trivial | (refine ⟨?_, ?_⟩; (focus (show ¬ _ = _; dsimp only; omega))))), (by first | exact fun _ _ hj => hj | (intro j hj hjb; unfold onB at hjb; exfalso; omega)), pick_c _ _ _ _ _ hC (by omega), ?_⟩; intro r5 w5 e5 h5; have z5 := cutLe e5; obtain ⟨hr5, hC⟩ := h5; (try replace hown := hown.cur h0 (by omega) e5); (try replace hown2 := hown2.cur h0 (by omega) e5); (try replace oB := oB.cur h0 (by omega) e5); (try replace hE := hE.trans e5); obtain ⟨x5, rfl, hx5⟩ := hr5 ; (try replace o5 := o5.cur h0 (by omega) e5))
          | ((with_reducible refine OBL.mk (o := ((149 : Int) ≠ 0)) ?_ (fun _ => ?_)); (focus decide); have td5 := tdiv_b (x := x5) (m := 149) (by omega) (by omega))
          | ((with_reducible refine BIF.dec ?_ ?_) <;> intro _)
          | ((with_reducible refine BIF.s ?_ ?_) <;> intro _)
          | (with_reducible refine NEXTK.normal ?_)
          | (with_reducible refine NEXTK.ret ?_)
          | (with_reducible refine NEXTK.exit ?_)
          | (with_reducible refine SEQ.plain ?_)
          | (with_reducible refine hK _ _ ?_)
          | ((with_reducible refine RUNL.agg (fun _ => ?_) ?_); (focus kernel_rfl))
          | (with_reducible refine RUNL.run ?_)
          | ((with_reducible refine AR.ok ?_ ?_); exact ⟨by first | omega | (dsimp only; omega), by first | omega | (dsimp only; omega)⟩)
          | (with_reducible refine AR.wr ?_)
          | ((with_reducible intro w3 e3); try have z3 := cutLe e3)
          | ((with_reducible intro h3); have h4 := Nat.le_of_lt h3; clear h4)))
        all_goals first
          | (refine ⟨(j + 1, (b5, d5), zs, _), rfl, ⟨rfl, rfl, ?_, trivial⟩, rfl, rfl, ⟨by simp only; omega, by dsimp only; omega, by simp only; omega, hzf, by simp only; omega, o5, hC.mono (by simp only; omega)⟩, by simp only; omega⟩
             refine congrArg (fun z => TV.v (Value.int .i64 z)) ?_
             simp only
             omega)
          | (refine ⟨(j + 1, (a1, c1), ys, _), rfl, ⟨rfl, rfl, ?_, trivial⟩, rfl, rfl, ⟨by simp only; omega, by dsimp only; omega, by simp only; omega, hfit, by simp only; omega, hown, hC.mono (by simp only; omega)⟩, by simp only; omega⟩
             refine congrArg (fun z => TV.v (Value.int .i64 z)) ?_
             simp only
             omega)
  · repeat (any_goals (
      conv => whnf
      first
      | ((with_reducible intro w3 e3); have z3 := cutLe e3; replace hC := (by first | exact hC.e0 e3 | exact hC.past h0 e3 (fun j hj e => by simp only [bk] at e; omega)); replace hown := hown.ext e3 (by first | exact fun _ _ h => h | (intro k hk h; have hh := oL k hk; simp only [bk] at h; omega)))
      | ((with_reducible refine callM (g := 29) ?_ ?_); kernel_rfl; refine ⟨onB _, _, (by repeat (first | exact trivial | (refine ⟨?_, ?_⟩; (focus (show ¬ _ = _; dsimp only; omega))))), (by first | exact fun _ _ hj => hj | (intro j hj hjb; unfold onB at hjb; exfalso; omega)), one_c _ _ _ _ _ hC (by omega), ?_⟩; intro r5 w5 e5 h5; have z5 := cutLe e5; obtain ⟨hr5, hC⟩ := h5; (try replace hown := hown.cur h0 (by omega) e5); (try replace hown2 := hown2.cur h0 (by omega) e5); (try replace oB := oB.cur h0 (by omega) e5); (try replace hE := hE.trans e5); obtain ⟨x5, rfl, hx5⟩ := hr5)
      | ((with_reducible refine BIF.dec ?_ ?_) <;> intro _)
      | ((with_reducible refine BIF.s ?_ ?_) <;> intro _)
      | (with_reducible refine NEXTK.normal ?_)
      | (with_reducible refine NEXTK.ret ?_)
      | (with_reducible refine NEXTK.exit ?_)
      | (with_reducible refine SEQ.plain ?_)
      | (with_reducible refine hK _ _ ?_)
      | ((with_reducible refine RUNL.agg (fun _ => ?_) ?_); (focus kernel_rfl))
      | (with_reducible refine RUNL.run ?_)
      | ((with_reducible refine AR.ok ?_ ?_); exact ⟨by first | omega | (dsimp only; omega), by first | omega | (dsimp only; omega)⟩)
      | (with_reducible refine AR.wr ?_)
      | ((with_reducible intro w3 e3); try have z3 := cutLe e3)
      | ((with_reducible intro h3); have h4 := Nat.le_of_lt h3; clear h4)))
    all_goals first
    | (intro hx
       exact ⟨_, rfl, hx, ⟨ys, by omega, hfit, hown⟩, hC.mono (by omega)⟩)
    | skip
    have hnz : n ≠ 0 := by omega
    have hra := ha.resolve_left hnz
    have his := hr.isSome (by simp; omega)
    clear hown
    conv => whnf
    refine bsS elemRep [] rfl rfl (by simp) (by omega) (fun w9 e9 hown => ?_)
    have z9 := cutLe e9
    replace hC := hC.e0 e9
    replace hown : Own w9 w.heap.size 27 3 (.slice (some ⟨w5.heap.size, 0, none⟩) 0 0) (([] : List Rep).map encRep) := hown.lo (by omega)
    conv => whnf
    repeat (first | ((with_reducible refine NEXTK.normal ?_); conv => whnf) | ((with_reducible refine NEXTK.exit ?_); conv => whnf) | ((with_reducible refine NEXTK.ret ?_); conv => whnf) | ((with_reducible refine SEQ.plain ?_); conv => whnf) | ((with_reducible refine AR.ok ?_ ?_); exact ⟨by omega, by omega⟩; conv => whnf))
    refine LOOP.mk (Nat × (Option Addr × Nat) × List Rep) (fun g => [(5, .v (.slice g.2.1.1 g.2.2.length g.2.1.2)), (10, .v (.int .i64 g.1))])
      (fun g wr => g.1 ≤ 13 ∧ w.heap.size ≤ wr.heap.size ∧ g.2.2.length ≤ g.1 ∧ (∀ x ∈ g.2.2, fitRep x) ∧ Own wr w.heap.size 27 3 (.slice g.2.1.1 g.2.2.length g.2.1.2) (g.2.2.map encRep) ∧ Cu wr b cd (k + 300 + 2 * g.1)) (fun g => 13 - g.1) (0, (some ⟨w5.heap.size, 0, none⟩, 0), []) rfl ⟨rfl, rfl, trivial⟩ ⟨by simp only; omega, by show w.heap.size ≤ w9.heap.size; omega, by simp, by simp, hown, hC.mono (by simp only; omega)⟩ ?_
    clear hown hC
    rintro ⟨q, ⟨a2, c2⟩, zs⟩ ws - ⟨hq, hzq, hlen2, hfit2, hown, hC⟩
    simp only at hq hzq hlen2 hfit2 hown hC
    dsimp only
    have hjm := tmod_b (x := (q : Int)) (m := 3) (by omega) (by omega)
    obtain ⟨y, hy⟩ : ∃ y, xs[0]? = some y := ⟨xs[0]'(by omega), by simp⟩
    have hyf := hf y (List.mem_of_getElem? hy)
    unfold fitDmg at hyf
    conv => whnf
    repeat (first | ((with_reducible refine NEXTK.normal ?_); conv => whnf) | ((with_reducible refine NEXTK.exit ?_); conv => whnf) | ((with_reducible refine NEXTK.ret ?_); conv => whnf) | ((with_reducible refine SEQ.plain ?_); conv => whnf) | ((with_reducible refine AR.ok ?_ ?_); exact ⟨by omega, by omega⟩; conv => whnf))
    repeat (any_goals (
      conv => whnf
      first
      | ((with_reducible intro w3 e3); have z3 := cutLe e3; (try replace hC := (by first | exact hC.e0 e3 | exact hC.past h0 e3 (fun j hj e => by simp only [bk] at e; omega))); (try replace hown := (by first | exact hown.e0 e3 | exact hown.ext e3 (by intro kk hkk h; have hh := (hown.block hkk).1; simp only [bk] at h; omega))); (try replace hown2 := (by first | exact hown2.e0 e3 | exact hown2.ext e3 (by intro kk hkk h; have hh := (hown2.block hkk).1; simp only [bk] at h; omega))))
      | ((with_reducible refine callM (g := 28) ?_ ?_); kernel_rfl; refine ⟨onB _, _, (by repeat (first | exact trivial | (refine ⟨?_, ?_⟩; (focus (show ¬ _ = _; dsimp only; omega))))), (by first | exact fun _ _ hj => hj | (intro j hj hjb; unfold onB at hjb; exfalso; omega)), pick_c _ _ _ _ _ hC (by omega), ?_⟩; intro r5 w5 e5 h5; have z5 := cutLe e5; obtain ⟨hr5, hC⟩ := h5; (try replace hown := hown.cur h0 (by omega) e5); (try replace hown2 := hown2.cur h0 (by omega) e5); (try replace oB := oB.cur h0 (by omega) e5); (try replace hE := hE.trans e5); obtain ⟨x5, rfl, hx5⟩ := hr5)
      | ((with_reducible refine OBL.mk ?_ (fun _ => ?_)); (focus decide))
      | ((with_reducible refine OBL.mk ?_ (fun _ => ?_)); exact ⟨by first | omega | (dsimp only; omega), by first | omega | (dsimp only; omega), his⟩)
      | ((with_reducible refine ELD.at (enc := encDmg) (xs := xs) 0 hr hra ?_ ?_ (fun x' hx' => ?_)); (focus rfl); (focus omega); obtain rfl : y = x' := by (rw [hy] at hx'; exact Option.some.inj hx'))
      | ((with_reducible refine bsS elemRep [.agg (encRep ⟨y.fSheet, 1 + (q : Int).tmod 3, q⟩).toArray] ?_ ?_ ?_ ?_ ?_); (focus rfl); (focus rfl); (focus (intro v hv; simp at hv; subst hv; rfl)); (focus omega); intro w9 e9 oB; have z9 := cutLe e9; (try replace oC := oC.e0 e9))
      | ((with_reducible refine BIF.dec ?_ ?_) <;> intro _)
      | ((with_reducible refine BIF.s ?_ ?_) <;> intro _)
      | (with_reducible refine NEXTK.normal ?_)
      | (with_reducible refine NEXTK.ret ?_)
      | (with_reducible refine NEXTK.exit ?_)
      | (with_reducible refine SEQ.plain ?_)
      | (with_reducible refine hK _ _ ?_)
      | ((with_reducible refine RUNL.agg (fun _ => ?_) ?_); (focus kernel_rfl))
      | (with_reducible refine RUNL.run ?_)
      | ((with_reducible refine AR.ok ?_ ?_); exact ⟨by first | omega | (dsimp only; omega), by first | omega | (dsimp only; omega)⟩)
      | (with_reducible refine AR.wr ?_)
      | ((with_reducible intro w3 e3); try have z3 := cutLe e3)
      | ((with_reducible intro h3); have h4 := Nat.le_of_lt h3; clear h4)))
    · conv => whnf
      replace hC := hC.e0 e9
      replace hown := hown.e0 e9
      refine apS (ns := [encRep ⟨y.fSheet, 1 + (q : Int).tmod 3, q⟩]) elemRep hown oB.row.1 rfl (by intro l hl; simp at hl; subst hl; rfl) ⟨by simp; omega, by simp; omega⟩ ⟨(by show w.heap.size ≤ _; omega), by omega⟩ trivial (fun v2 w2 x2 o2 => ?_)
      have z2 := cutLe x2
      replace hC := hC.own h0 x2 hown (by omega)
      obtain ⟨us, hus⟩ : ∃ us, us = zs ++ [(⟨y.fSheet, 1 + (q : Int).tmod 3, q⟩ : Rep)] := ⟨_, rfl⟩
      replace hown : Own w2 w.heap.size 27 3 v2 (us.map encRep) := by rw [hus]; simpa using o2
      have huf : ∀ x ∈ us, fitRep x := by
        rw [hus]; intro x hx; rcases List.mem_append.1 hx with h | h
        · exact hfit2 x h
        · rw [List.mem_singleton.1 h]; unfold fitRep; dsimp only; omega
      have hul : us.length = zs.length + 1 := by rw [hus]; simp
      obtain ⟨b2, d2, rfl, q2, p2⟩ := hown.rowx
      repeat (any_goals (
        conv => whnf
        first
        | ((with_reducible refine BIF.dec ?_ ?_) <;> intro _)
        | ((with_reducible refine BIF.s ?_ ?_) <;> intro _)
        | (with_reducible refine NEXTK.normal ?_)
        | (with_reducible refine NEXTK.ret ?_)
        | (with_reducible refine NEXTK.exit ?_)
        | (with_reducible refine SEQ.plain ?_)
        | (with_reducible refine hK _ _ ?_)
        | ((with_reducible refine RUNL.agg (fun _ => ?_) ?_); (focus kernel_rfl))
        | (with_reducible refine RUNL.run ?_)
        | ((with_reducible refine AR.ok ?_ ?_); exact ⟨by first | omega | (dsimp only; omega), by first | omega | (dsimp only; omega)⟩)
        | (with_reducible refine AR.wr ?_)
        | ((with_reducible intro w3 e3); try have z3 := cutLe e3)
        | ((with_reducible intro h3); have h4 := Nat.le_of_lt h3; clear h4)))
      exact ⟨(q + 1, (b2, d2), us), rfl, ⟨rfl, rfl, trivial⟩, rfl, rfl, ⟨by simp only; omega, by show w.heap.size ≤ w2.heap.size; omega, by simp only; omega, huf, hown, hC.mono (by simp only; omega)⟩, by simp only; omega⟩
    · intro hx
      exact ⟨_, rfl, hx, ⟨zs, by omega, hfit2, hown⟩, hC.mono (by omega)⟩

end Go.Proofs.YtgopcppegjhmiaaDoor

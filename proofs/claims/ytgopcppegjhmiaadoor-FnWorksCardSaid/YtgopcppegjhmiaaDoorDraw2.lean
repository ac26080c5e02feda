/- The draws of damages and of a sheet. -/
import Derived.Test.YtgopcppegjhmiaaDoorRows
import Derived.Test.YtgopcppegjhmiaaDoorDraw
import Derived.Test.YtgopcppegjhmiaaDoorRep2
namespace Go.Proofs.YtgopcppegjhmiaaDoor
open Go Go.X Go.Proofs Go.ChangeShapes Go.WideShapes Go.ChangeAt Go.RowKit
open Go.ChangeMaps (open_string shut_string)
set_option maxHeartbeats 1000000
set_option maxRecDepth 20000
set_option linter.unusedVariables false
set_option linter.unusedSimpArgs false
def RD (v : Value) : Prop := ∃ x : Dmg, v = .agg (encDmg x).toArray ∧ fitDmg x
theorem damage_c (b : Nat) (cd : Cd) (k : Int) (id : Int) (w : World) (hC : Cu w b cd k) (hk : 0 ≤ k ∧ k ≤ 1000000000000) (hid : -100000 ≤ id ∧ id ≤ 100000) :
    Calls Tryd.prog 52 #[.pointer (some ⟨b, 0, none⟩), .int .i64 id] w fun e w' => ∃ v, e = .returned v ∧ Ext (onB b) w w' ∧ RD v ∧ Cu w' b cd (k + 20) := by
  refine enterK (onB b) 44 Tryd.func52 rfl rfl rfl fun K hK => ?_
  have hb := hC.lt
  have h0 := hC
  repeat (any_goals (
    conv => whnf
    first
    | ((with_reducible intro w3 e3); have z3 := cutLe e3; (try replace hC := (by first | exact hC.e0 e3 | exact hC.past h0 e3 (fun j hj e => by simp only [bk] at e; omega))); (try replace hown := (by first | exact hown.e0 e3 | exact hown.ext e3 (by intro kk hkk h; have hh := (hown.block hkk).1; simp only [bk] at h; omega))); (try replace hown2 := (by first | exact hown2.e0 e3 | exact hown2.ext e3 (by intro kk hkk h; have hh := (hown2.block hkk).1; simp only [bk] at h; omega))))
    | ((with_reducible refine bsI ?_ ?_ ?_ ?_ ?_); (focus rfl); (focus rfl); (focus omega); (focus rfl); intro w9 e9 oB; have z9 := cutLe e9; replace hC := hC.e0 e9; (try replace hown := hown.e0 e9); (try replace hown2 := hown2.e0 e9); (try replace hE := hE.trans (Ext.of0 e9)))
    | ((with_reducible refine callM (g := 27) ?_ ?_); kernel_rfl; refine ⟨onB _, _, (by repeat (first | exact trivial | (refine ⟨?_, ?_⟩; (focus (show ¬ _ = _; dsimp only; omega))))), (by first | exact fun _ _ hj => hj | (intro j hj hjb; unfold onB at hjb; exfalso; omega)), among_c _ _ _ _ _ _ _ (fun r => -1 ≤ r ∧ r ≤ 1000) _ hC (by omega) oB.row.1 (by first | rfl | (simp; omega)) (by omega) (notOn (by omega)) (by intro y hy; unfold intsOf at hy; simp at hy; omega), ?_⟩; intro r5 w5 e5 h5; have z5 := cutLe e5; obtain ⟨hr5, hC⟩ := h5; (try replace hown := hown.cur h0 (by omega) e5); (try replace hown2 := hown2.cur h0 (by omega) e5); (try replace oB := oB.cur h0 (by omega) e5); (try replace hE := hE.trans e5); obtain ⟨x5, rfl, hx5⟩ := hr5)
    | ((with_reducible refine callM (g := 28) ?_ ?_); kernel_rfl; refine ⟨onB _, _, (by repeat (first | exact trivial | (refine ⟨?_, ?_⟩; (focus (show ¬ _ = _; dsimp only; omega))))), (by first | exact fun _ _ hj => hj | (intro j hj hjb; unfold onB at hjb; exfalso; omega)), pick_c _ _ _ _ _ hC (by omega), ?_⟩; intro r5 w5 e5 h5; have z5 := cutLe e5; obtain ⟨hr5, hC⟩ := h5; (try replace hown := hown.cur h0 (by omega) e5); (try replace hown2 := hown2.cur h0 (by omega) e5); (try replace oB := oB.cur h0 (by omega) e5); (try replace hE := hE.trans e5); obtain ⟨x5, rfl, hx5⟩ := hr5)
    | ((with_reducible refine BIF.dec ?_ ?_) <;> intro _)
    | ((with_reducible refine BIF.s ?_ ?_) <;> intro _)
    | (with_reducible refine NEXTK.normal ?_)
    | (with_reducible refine NEXTK.ret ?_)
    | (with_reducible refine NEXTK.exit ?_)
    | (with_reducible refine SEQ.plain ?_)
    | (with_reducible refine hK _ _ ?_)
    | ((with_reducible refine RUNL.agg (fun _ => ?_) ?_); (focus kernel_rfl))
    | (with_reducible refine RUNL.run ?_)
    | ((with_reducible refine AR.ok ?_ ?_); exact ⟨by first | omega | (dsimp only; omega), by first | omega | (dsimp only; omega)⟩)
    | (with_reducible refine AR.wr ?_)
    | ((with_reducible intro w3 e3); try have z3 := cutLe e3)
    | ((with_reducible intro h3); have h4 := Nat.le_of_lt h3; clear h4)))
  all_goals
    intro hx
    exact ⟨_, rfl, hx, ⟨⟨_, _, _, _⟩, rfl, by unfold fitDmg; dsimp only; omega⟩, hC.mono (by omega)⟩
theorem damages_c (b : Nat) (cd : Cd) (k : Int) (w : World) (hC : Cu w b cd k) (hk : 0 ≤ k ∧ k ≤ 900000000000) :
    Calls Tryd.prog 25 #[.pointer (some ⟨b, 0, none⟩)] w fun e w' => ∃ v, e = .returned v ∧ Ext (onB b) w w' ∧ RL encDmg fitDmg 42 4 w.heap.size 13 w' v ∧ Cu w' b cd (k + 300) := by
  refine enterK (onB b) 50 Tryd.func25 rfl rfl rfl fun K hK => ?_
  have hb := hC.lt
  have h0 := hC
  conv => whnf
  repeat (first | ((with_reducible refine NEXTK.normal ?_); conv => whnf) | ((with_reducible refine NEXTK.exit ?_); conv => whnf) | ((with_reducible refine NEXTK.ret ?_); conv => whnf) | ((with_reducible refine SEQ.plain ?_); conv => whnf) | ((with_reducible refine AR.ok ?_ ?_); exact ⟨by omega, by omega⟩; conv => whnf))
  refine bsS elemDmg [] rfl rfl (by simp) (by omega) (fun w9 e9 hown => ?_)
  have z9 := cutLe e9
  replace hC := hC.e0 e9
  repeat (any_goals (
    conv => whnf
    first
    | ((with_reducible intro w3 e3); have z3 := cutLe e3; (try replace hC := (by first | exact hC.e0 e3 | exact hC.past h0 e3 (fun j hj e => by simp only [bk] at e; omega))); (try replace hown := (by first | exact hown.e0 e3 | exact hown.ext e3 (by intro kk hkk h; have hh := (hown.block hkk).1; simp only [bk] at h; omega))); (try replace hown2 := (by first | exact hown2.e0 e3 | exact hown2.ext e3 (by intro kk hkk h; have hh := (hown2.block hkk).1; simp only [bk] at h; omega))))
    | ((with_reducible refine callM (g := 28) ?_ ?_); kernel_rfl; refine ⟨onB _, _, (by repeat (first | exact trivial | (refine ⟨?_, ?_⟩; (focus (show ¬ _ = _; dsimp only; omega))))), (by first | exact fun _ _ hj => hj | (intro j hj hjb; unfold onB at hjb; exfalso; omega)), pick_c _ _ _ _ _ hC (by omega), ?_⟩; intro r5 w5 e5 h5; have z5 := cutLe e5; obtain ⟨hr5, hC⟩ := h5; (try replace hown := hown.cur h0 (by omega) e5); (try replace hown2 := hown2.cur h0 (by omega) e5); (try replace oB := oB.cur h0 (by omega) e5); (try replace hE := hE.trans e5); obtain ⟨x5, rfl, hx5⟩ := hr5)
    | ((with_reducible refine BIF.dec ?_ ?_) <;> intro _)
    | ((with_reducible refine BIF.s ?_ ?_) <;> intro _)
    | (with_reducible refine NEXTK.normal ?_)
    | (with_reducible refine NEXTK.ret ?_)
    | (with_reducible refine NEXTK.exit ?_)
    | (with_reducible refine SEQ.plain ?_)
    | (with_reducible refine hK _ _ ?_)
    | ((with_reducible refine RUNL.agg (fun _ => ?_) ?_); (focus kernel_rfl))
    | (with_reducible refine RUNL.run ?_)
    | ((with_reducible refine AR.ok ?_ ?_); exact ⟨by first | omega | (dsimp only; omega), by first | omega | (dsimp only; omega)⟩)
    | (with_reducible refine AR.wr ?_)
    | ((with_reducible intro w3 e3); try have z3 := cutLe e3)
    | ((with_reducible intro h3); have h4 := Nat.le_of_lt h3; clear h4)))
  conv => whnf
  replace hown : Own w5 w.heap.size 42 4 (.slice (some ⟨w.heap.size, 0, none⟩) 0 0) (([] : List Dmg).map encDmg) := hown
  obtain ⟨n0, hn0, hn1⟩ : ∃ n0 : Int, n0 = x5 ∧ 0 ≤ n0 ∧ n0 ≤ 5 := ⟨x5, rfl, by omega, by omega⟩
  refine LOOP.mk (Nat × (Option Addr × Nat) × List Dmg × Int) (fun g => [(3, .v (.slice g.2.1.1 g.2.2.1.length g.2.1.2)), (4, .v (.int .i64 g.2.2.2)), (5, .v (.int .i64 (n0 - g.1)))])
    (fun g wr => g.1 ≤ n0 ∧ w.heap.size ≤ wr.heap.size ∧ g.2.2.1.length ≤ g.1 ∧ (∀ x ∈ g.2.2.1, fitDmg x) ∧ (-g.1 ≤ g.2.2.2 ∧ g.2.2.2 ≤ 3 * g.1) ∧ Own wr w.heap.size 42 4 (.slice g.2.1.1 g.2.2.1.length g.2.1.2) (g.2.2.1.map encDmg) ∧ Cu wr b cd (k + 4 + 30 * g.1)) (fun g => (n0 - g.1).toNat) (0, (some ⟨w.heap.size, 0, none⟩, 0), [], 0) rfl ⟨rfl, rfl, by rw [hn0]; simp [lk, Nat.beq], trivial⟩ ⟨by simp only; omega, by show w.heap.size ≤ w5.heap.size; omega, by simp, by simp, by simp only; omega, hown, hC.mono (by simp only; omega)⟩ ?_
  clear hown hC
  rintro ⟨j, ⟨a1, c1⟩, ys, id⟩ wr - ⟨hj, hz, hlen, hfit, hid, hown, hC⟩
  simp only at hj hz hlen hfit hid hown hC
  dsimp only
  conv => whnf
  repeat (first | ((with_reducible refine NEXTK.normal ?_); conv => whnf) | ((with_reducible refine NEXTK.exit ?_); conv => whnf) | ((with_reducible refine NEXTK.ret ?_); conv => whnf) | ((with_reducible refine SEQ.plain ?_); conv => whnf) | ((with_reducible refine AR.ok ?_ ?_); exact ⟨by omega, by omega⟩; conv => whnf))
  refine BIF.dec (fun hlt => ?_) (fun hlt => ?_)
  · repeat (any_goals (
      conv => whnf
      first
      | ((with_reducible intro w3 e3); have z3 := cutLe e3; (try replace hC := (by first | exact hC.e0 e3 | exact hC.past h0 e3 (fun j hj e => by simp only [bk] at e; omega))); (try replace hown := (by first | exact hown.e0 e3 | exact hown.ext e3 (by intro kk hkk h; have hh := (hown.block hkk).1; simp only [bk] at h; omega))); (try replace hown2 := (by first | exact hown2.e0 e3 | exact hown2.ext e3 (by intro kk hkk h; have hh := (hown2.block hkk).1; simp only [bk] at h; omega))))
      | ((with_reducible refine callM (g := 28) ?_ ?_); kernel_rfl; refine ⟨onB _, _, (by repeat (first | exact trivial | (refine ⟨?_, ?_⟩; (focus (show ¬ _ = _; dsimp only; omega))))), (by first | exact fun _ _ hj => hj | (intro j hj hjb; unfold onB at hjb; exfalso; omega)), pick_c _ _ _ _ _ hC (by omega), ?_⟩; intro r5 w5 e5 h5; have z5 := cutLe e5; obtain ⟨hr5, hC⟩ := h5; (try replace hown := hown.cur h0 (by omega) e5); (try replace hown2 := hown2.cur h0 (by omega) e5); (try replace oB := oB.cur h0 (by omega) e5); (try replace hE := hE.trans e5); obtain ⟨x5, rfl, hx5⟩ := hr5)
      | ((with_reducible refine callM (g := 52) ?_ ?_); kernel_rfl; refine ⟨onB _, _, (by repeat (first | exact trivial | (refine ⟨?_, ?_⟩; (focus (show ¬ _ = _; dsimp only; omega))))), (by first | exact fun _ _ hj => hj | (intro j hj hjb; unfold onB at hjb; exfalso; omega)), damage_c _ _ _ _ _ hC (by omega) (by omega), ?_⟩; intro r5 w5 e5 h5; have z5 := cutLe e5; obtain ⟨hr5, hC⟩ := h5; (try replace hown := hown.cur h0 (by omega) e5); (try replace hown2 := hown2.cur h0 (by omega) e5); (try replace oB := oB.cur h0 (by omega) e5); (try replace hE := hE.trans e5); obtain ⟨x5, rfl, hx5⟩ := hr5)
      | ((with_reducible refine OBL.mk (o := ((149 : Int) ≠ 0)) ?_ (fun _ => ?_)); (focus decide); have td5 := tdiv_b (x := x5) (m := 149) (by omega) (by omega))
      | ((with_reducible refine bsS elemDmg [.agg (encDmg x5).toArray] ?_ ?_ ?_ ?_ ?_); (focus rfl); (focus rfl); (focus (intro v hv; simp at hv; subst hv; rfl)); (focus omega); intro w9 e9 oB; have z9 := cutLe e9; (try replace oC := oC.e0 e9))
      | ((with_reducible refine BIF.dec ?_ ?_) <;> intro _)
      | ((with_reducible refine BIF.s ?_ ?_) <;> intro _)
      | (with_reducible refine NEXTK.normal ?_)
      | (with_reducible refine NEXTK.ret ?_)
      | (with_reducible refine NEXTK.exit ?_)
      | (with_reducible refine SEQ.plain ?_)
      | (with_reducible refine hK _ _ ?_)
      | ((with_reducible refine RUNL.agg (fun _ => ?_) ?_); (focus kernel_rfl))
      | (with_reducible refine RUNL.run ?_)
      | ((with_reducible refine AR.ok ?_ ?_); exact ⟨by first | omega | (dsimp only; omega), by first | omega | (dsimp only; omega)⟩)
      | (with_reducible refine AR.wr ?_)
      | ((with_reducible intro w3 e3); try have z3 := cutLe e3)
      | ((with_reducible intro h3); have h4 := Nat.le_of_lt h3; clear h4)))
    conv => whnf
    replace hC := hC.e0 e9
    replace hown := hown.e0 e9
    refine apS (ns := [encDmg x5]) elemDmg hown oB.row.1 rfl (by intro l hl; simp at hl; subst hl; rfl) ⟨by simp; omega, by simp; omega⟩ ⟨(by show w.heap.size ≤ _; omega), by omega⟩ trivial (fun v2 w2 x2 o2 => ?_)
    have z2 := cutLe x2
    replace hC := hC.own h0 x2 hown (by omega)
    obtain ⟨zs, hzs⟩ : ∃ zs, zs = ys ++ [x5] := ⟨_, rfl⟩
    replace hown : Own w2 w.heap.size 42 4 v2 (zs.map encDmg) := by rw [hzs]; simpa using o2
    have hzf : ∀ x ∈ zs, fitDmg x := by rw [hzs]; intro x hx; rcases List.mem_append.1 hx with h | h; exact hfit x h; rw [List.mem_singleton.1 h]; exact hx5
    have hzl : zs.length = ys.length + 1 := by rw [hzs]; simp
    obtain ⟨b2, d2, rfl, q2, p2⟩ := hown.rowx
    repeat (any_goals (
      conv => whnf
      first
      | ((with_reducible intro w3 e3); have z3 := cutLe e3; (try replace hC := (by first | exact hC.e0 e3 | exact hC.past h0 e3 (fun j hj e => by simp only [bk] at e; omega))); (try replace hown := (by first | exact hown.e0 e3 | exact hown.ext e3 (by intro kk hkk h; have hh := (hown.block hkk).1; simp only [bk] at h; omega))); (try replace hown2 := (by first | exact hown2.e0 e3 | exact hown2.ext e3 (by intro kk hkk h; have hh := (hown2.block hkk).1; simp only [bk] at h; omega))))
      | ((with_reducible refine BIF.dec ?_ ?_) <;> intro _)
      | ((with_reducible refine BIF.s ?_ ?_) <;> intro _)
      | (with_reducible refine NEXTK.normal ?_)
      | (with_reducible refine NEXTK.ret ?_)
      | (with_reducible refine NEXTK.exit ?_)
      | (with_reducible refine SEQ.plain ?_)
      | (with_reducible refine hK _ _ ?_)
      | ((with_reducible refine RUNL.agg (fun _ => ?_) ?_); (focus kernel_rfl))
      | (with_reducible refine RUNL.run ?_)
      | ((with_reducible refine AR.ok ?_ ?_); exact ⟨by first | omega | (dsimp only; omega), by first | omega | (dsimp only; omega)⟩)
      | (with_reducible refine AR.wr ?_)
      | ((with_reducible intro w3 e3); try have z3 := cutLe e3)
      | ((with_reducible intro h3); have h4 := Nat.le_of_lt h3; clear h4)))
    refine ⟨(j + 1, (b2, d2), zs, _), rfl, ⟨rfl, rfl, ?_, trivial⟩, rfl, rfl, ⟨by simp only; omega, by show w.heap.size ≤ w2.heap.size; omega, by simp only; omega, hzf, by simp only; omega, hown, hC.mono (by simp only; omega)⟩, by simp only; omega⟩
    refine congrArg (fun z => TV.v (Value.int .i64 z)) ?_
    simp only
    omega
  · repeat (any_goals (
      conv => whnf
      first
      | ((with_reducible intro w3 e3); have z3 := cutLe e3; (try replace hC := (by first | exact hC.e0 e3 | exact hC.past h0 e3 (fun j hj e => by simp only [bk] at e; omega))); (try replace hown := (by first | exact hown.e0 e3 | exact hown.ext e3 (by intro kk hkk h; have hh := (hown.block hkk).1; simp only [bk] at h; omega))); (try replace hown2 := (by first | exact hown2.e0 e3 | exact hown2.ext e3 (by intro kk hkk h; have hh := (hown2.block hkk).1; simp only [bk] at h; omega))))
      | ((with_reducible refine callM (g := 29) ?_ ?_); kernel_rfl; refine ⟨onB _, _, (by repeat (first | exact trivial | (refine ⟨?_, ?_⟩; (focus (show ¬ _ = _; dsimp only; omega))))), (by first | exact fun _ _ hj => hj | (intro j hj hjb; unfold onB at hjb; exfalso; omega)), one_c _ _ _ _ _ hC (by omega), ?_⟩; intro r5 w5 e5 h5; have z5 := cutLe e5; obtain ⟨hr5, hC⟩ := h5; (try replace hown := hown.cur h0 (by omega) e5); (try replace hown2 := hown2.cur h0 (by omega) e5); (try replace oB := oB.cur h0 (by omega) e5); (try replace hE := hE.trans e5); obtain ⟨x5, rfl, hx5⟩ := hr5)
      | ((with_reducible refine BIF.dec ?_ ?_) <;> intro _)
      | ((with_reducible refine BIF.s ?_ ?_) <;> intro _)
      | (with_reducible refine NEXTK.normal ?_)
      | (with_reducible refine NEXTK.ret ?_)
      | (with_reducible refine NEXTK.exit ?_)
      | (with_reducible refine SEQ.plain ?_)
      | (with_reducible refine hK _ _ ?_)
      | ((with_reducible refine RUNL.agg (fun _ => ?_) ?_); (focus kernel_rfl))
      | (with_reducible refine RUNL.run ?_)
      | ((with_reducible refine AR.ok ?_ ?_); exact ⟨by first | omega | (dsimp only; omega), by first | omega | (dsimp only; omega)⟩)
      | (with_reducible refine AR.wr ?_)
      | ((with_reducible intro w3 e3); try have z3 := cutLe e3)
      | ((with_reducible intro h3); have h4 := Nat.le_of_lt h3; clear h4)))
    · conv => whnf
      refine bsS elemDmg [] rfl rfl (by simp) (by omega) (fun w9 e9 hown => ?_)
      have z9 := cutLe e9
      replace hC := hC.e0 e9
      replace hown : Own w9 w.heap.size 42 4 (.slice (some ⟨w5.heap.size, 0, none⟩) 0 0) (([] : List Dmg).map encDmg) := hown.lo (by omega)
      conv => whnf
      repeat (first | ((with_reducible refine NEXTK.normal ?_); conv => whnf) | ((with_reducible refine NEXTK.exit ?_); conv => whnf) | ((with_reducible refine NEXTK.ret ?_); conv => whnf) | ((with_reducible refine SEQ.plain ?_); conv => whnf) | ((with_reducible refine AR.ok ?_ ?_); exact ⟨by omega, by omega⟩; conv => whnf))
      refine LOOP.mk (Nat × (Option Addr × Nat) × List Dmg) (fun g => [(3, .v (.slice g.2.1.1 g.2.2.length g.2.1.2)), (6, .v (.int .i64 g.1))])
        (fun g wr => g.1 ≤ 13 ∧ w.heap.size ≤ wr.heap.size ∧ g.2.2.length ≤ g.1 ∧ (∀ x ∈ g.2.2, fitDmg x) ∧ Own wr w.heap.size 42 4 (.slice g.2.1.1 g.2.2.length g.2.1.2) (g.2.2.map encDmg) ∧ Cu wr b cd (k + 200 + 2 * g.1)) (fun g => 13 - g.1) (0, (some ⟨w5.heap.size, 0, none⟩, 0), []) rfl ⟨rfl, rfl, trivial⟩ ⟨by simp only; omega, by show w.heap.size ≤ w9.heap.size; omega, by simp, by simp, hown, hC.mono (by simp only; omega)⟩ ?_
      clear hown hC
      rintro ⟨j, ⟨a1, c1⟩, ys⟩ wr - ⟨hj, hz, hlen, hfit, hown, hC⟩
      simp only at hj hz hlen hfit hown hC
      dsimp only
      have hjm := tmod_b (x := (j : Int)) (m := 4) (by omega) (by omega)
      have hjm3 := tmod_b (x := (j : Int)) (m := 3) (by omega) (by omega)
      conv => whnf
      repeat (first | ((with_reducible refine NEXTK.normal ?_); conv => whnf) | ((with_reducible refine NEXTK.exit ?_); conv => whnf) | ((with_reducible refine NEXTK.ret ?_); conv => whnf) | ((with_reducible refine SEQ.plain ?_); conv => whnf) | ((with_reducible refine AR.ok ?_ ?_); exact ⟨by omega, by omega⟩; conv => whnf))
      repeat (any_goals (
        conv => whnf
        first
        | ((with_reducible intro w3 e3); have z3 := cutLe e3; (try replace hC := (by first | exact hC.e0 e3 | exact hC.past h0 e3 (fun j hj e => by simp only [bk] at e; omega))); (try replace hown := (by first | exact hown.e0 e3 | exact hown.ext e3 (by intro kk hkk h; have hh := (hown.block hkk).1; simp only [bk] at h; omega))); (try replace hown2 := (by first | exact hown2.e0 e3 | exact hown2.ext e3 (by intro kk hkk h; have hh := (hown2.block hkk).1; simp only [bk] at h; omega))))
        | ((with_reducible refine callM (g := 28) ?_ ?_); kernel_rfl; refine ⟨onB _, _, (by repeat (first | exact trivial | (refine ⟨?_, ?_⟩; (focus (show ¬ _ = _; dsimp only; omega))))), (by first | exact fun _ _ hj => hj | (intro j hj hjb; unfold onB at hjb; exfalso; omega)), pick_c _ _ _ _ _ hC (by omega), ?_⟩; intro r5 w5 e5 h5; have z5 := cutLe e5; obtain ⟨hr5, hC⟩ := h5; (try replace hown := hown.cur h0 (by omega) e5); (try replace hown2 := hown2.cur h0 (by omega) e5); (try replace oB := oB.cur h0 (by omega) e5); (try replace hE := hE.trans e5); obtain ⟨x5, rfl, hx5⟩ := hr5)
        | ((with_reducible refine OBL.mk ?_ (fun _ => ?_)); (focus decide))
        | ((with_reducible refine bsS elemDmg [.agg (encDmg ⟨(j : Int) + 1, (j : Int).tmod 4, (j : Int).tmod 3, 9⟩).toArray] ?_ ?_ ?_ ?_ ?_); (focus rfl); (focus rfl); (focus (intro v hv; simp at hv; subst hv; rfl)); (focus omega); intro w9 e9 oB; have z9 := cutLe e9; (try replace oC := oC.e0 e9))
        | ((with_reducible refine BIF.dec ?_ ?_) <;> intro _)
        | ((with_reducible refine BIF.s ?_ ?_) <;> intro _)
        | (with_reducible refine NEXTK.normal ?_)
        | (with_reducible refine NEXTK.ret ?_)
        | (with_reducible refine NEXTK.exit ?_)
        | (with_reducible refine SEQ.plain ?_)
        | (with_reducible refine hK _ _ ?_)
        | ((with_reducible refine RUNL.agg (fun _ => ?_) ?_); (focus kernel_rfl))
        | (with_reducible refine RUNL.run ?_)
        | ((with_reducible refine AR.ok ?_ ?_); exact ⟨by first | omega | (dsimp only; omega), by first | omega | (dsimp only; omega)⟩)
        | (with_reducible refine AR.wr ?_)
        | ((with_reducible intro w3 e3); try have z3 := cutLe e3)
        | ((with_reducible intro h3); have h4 := Nat.le_of_lt h3; clear h4)))
      · conv => whnf
        replace hC := hC.e0 e9
        replace hown := hown.e0 e9
        refine apS (ns := [encDmg ⟨(j : Int) + 1, (j : Int).tmod 4, (j : Int).tmod 3, 9⟩]) elemDmg hown oB.row.1 rfl (by intro l hl; simp at hl; subst hl; rfl) ⟨by simp; omega, by simp; omega⟩ ⟨(by show w.heap.size ≤ _; omega), by omega⟩ trivial (fun v2 w2 x2 o2 => ?_)
        have z2 := cutLe x2
        replace hC := hC.own h0 x2 hown (by omega)
        obtain ⟨zs, hzs⟩ : ∃ zs, zs = ys ++ [(⟨(j : Int) + 1, (j : Int).tmod 4, (j : Int).tmod 3, 9⟩ : Dmg)] := ⟨_, rfl⟩
        replace hown : Own w2 w.heap.size 42 4 v2 (zs.map encDmg) := by rw [hzs]; simpa using o2
        have hzf : ∀ x ∈ zs, fitDmg x := by
          rw [hzs]; intro x hx; rcases List.mem_append.1 hx with h | h
          · exact hfit x h
          · rw [List.mem_singleton.1 h]; unfold fitDmg; dsimp only; omega
        have hzl : zs.length = ys.length + 1 := by rw [hzs]; simp
        obtain ⟨b2, d2, rfl, q2, p2⟩ := hown.rowx
        repeat (any_goals (
          conv => whnf
          first
          | ((with_reducible refine BIF.dec ?_ ?_) <;> intro _)
          | ((with_reducible refine BIF.s ?_ ?_) <;> intro _)
          | (with_reducible refine NEXTK.normal ?_)
          | (with_reducible refine NEXTK.ret ?_)
          | (with_reducible refine NEXTK.exit ?_)
          | (with_reducible refine SEQ.plain ?_)
          | (with_reducible refine hK _ _ ?_)
          | ((with_reducible refine RUNL.agg (fun _ => ?_) ?_); (focus kernel_rfl))
          | (with_reducible refine RUNL.run ?_)
          | ((with_reducible refine AR.ok ?_ ?_); exact ⟨by first | omega | (dsimp only; omega), by first | omega | (dsimp only; omega)⟩)
          | (with_reducible refine AR.wr ?_)
          | ((with_reducible intro w3 e3); try have z3 := cutLe e3)
          | ((with_reducible intro h3); have h4 := Nat.le_of_lt h3; clear h4)))
        exact ⟨(j + 1, (b2, d2), zs), rfl, ⟨rfl, rfl, trivial⟩, rfl, rfl, ⟨by simp only; omega, by show w.heap.size ≤ w2.heap.size; omega, by simp only; omega, hzf, hown, hC.mono (by simp only; omega)⟩, by simp only; omega⟩
      · intro hx
        exact ⟨_, rfl, hx, ⟨ys, by omega, hfit, hown⟩, hC.mono (by omega)⟩
    · intro hx
      exact ⟨_, rfl, hx, ⟨ys, by omega, hfit, hown⟩, hC.mono (by omega)⟩
theorem damaged_c (b : Nat) (cd : Cd) (k : Int) (a : Option Addr) (n c : Nat) (xs : List Dmg) (w : World) (hC : Cu w b cd k) (hk : 0 ≤ k ∧ k ≤ 900000000000) (hr : Row w a 4 (xs.map encDmg)) (hn : xs.length = n) (hm : n ≤ 1000) (ha : n = 0 ∨ ¬ mAddr (onB b) a) (hf : ∀ x ∈ xs, fitDmg x) :
    Calls Tryd.prog 30 #[.pointer (some ⟨b, 0, none⟩), .slice a n c] w fun e w' => ∃ v, e = .returned v ∧ Ext (onB b) w w' ∧ RI I64 v ∧ Cu w' b cd (k + 6) := by
  refine enterK (onB b) 23 Tryd.func30 rfl rfl rfl fun K hK => ?_
  have hb := hC.lt
  have h0 := hC
  repeat (any_goals (
    conv => whnf
    first
    | ((with_reducible intro w3 e3); have z3 := cutLe e3; (try replace hC := (by first | exact hC.e0 e3 | exact hC.past h0 e3 (fun j hj e => by simp only [bk] at e; omega))); (try replace hown := (by first | exact hown.e0 e3 | exact hown.ext e3 (by intro kk hkk h; have hh := (hown.block hkk).1; simp only [bk] at h; omega))); (try replace hown2 := (by first | exact hown2.e0 e3 | exact hown2.ext e3 (by intro kk hkk h; have hh := (hown2.block hkk).1; simp only [bk] at h; omega))))
    | ((with_reducible refine bsI ?_ ?_ ?_ ?_ ?_); (focus rfl); (focus rfl); (focus omega); (focus rfl); intro w9 e9 oB; have z9 := cutLe e9; replace hC := hC.e0 e9; (try replace hown := hown.e0 e9); (try replace hown2 := hown2.e0 e9); (try replace hE := hE.trans (Ext.of0 e9)))
    | ((with_reducible refine callM (g := 27) ?_ ?_); kernel_rfl; refine ⟨onB _, _, (by repeat (first | exact trivial | (refine ⟨?_, ?_⟩; (focus (show ¬ _ = _; dsimp only; omega))))), (by first | exact fun _ _ hj => hj | (intro j hj hjb; unfold onB at hjb; exfalso; omega)), among_c _ _ _ _ _ _ _ (fun r => 0 ≤ r ∧ r ≤ 4000) _ hC (by omega) oB.row.1 (by first | rfl | (simp; omega)) (by omega) (notOn (by omega)) (by intro y hy; unfold intsOf at hy; simp at hy; omega), ?_⟩; intro r5 w5 e5 h5; have z5 := cutLe e5; obtain ⟨hr5, hC⟩ := h5; (try replace hown := hown.cur h0 (by omega) e5); (try replace hown2 := hown2.cur h0 (by omega) e5); (try replace oB := oB.cur h0 (by omega) e5); (try replace hE := hE.trans e5); obtain ⟨x5, rfl, hx5⟩ := hr5)
    | ((with_reducible refine callM (g := 29) ?_ ?_); kernel_rfl; refine ⟨onB _, _, (by repeat (first | exact trivial | (refine ⟨?_, ?_⟩; (focus (show ¬ _ = _; dsimp only; omega))))), (by first | exact fun _ _ hj => hj | (intro j hj hjb; unfold onB at hjb; exfalso; omega)), one_c _ _ _ _ _ hC (by omega), ?_⟩; intro r5 w5 e5 h5; have z5 := cutLe e5; obtain ⟨hr5, hC⟩ := h5; (try replace hown := hown.cur h0 (by omega) e5); (try replace hown2 := hown2.cur h0 (by omega) e5); (try replace oB := oB.cur h0 (by omega) e5); (try replace hE := hE.trans e5); obtain ⟨x5, rfl, hx5⟩ := hr5)
    | ((with_reducible refine callM (g := 28) ?_ ?_); kernel_rfl; refine ⟨onB _, _, (by repeat (first | exact trivial | (refine ⟨?_, ?_⟩; (focus (show ¬ _ = _; dsimp only; omega))))), (by first | exact fun _ _ hj => hj | (intro j hj hjb; unfold onB at hjb; exfalso; omega)), pick_c _ _ _ _ _ hC (by omega), ?_⟩; intro r5 w5 e5 h5; have z5 := cutLe e5; obtain ⟨hr5, hC⟩ := h5; (try replace hown := hown.cur h0 (by omega) e5); (try replace hown2 := hown2.cur h0 (by omega) e5); (try replace oB := oB.cur h0 (by omega) e5); (try replace hE := hE.trans e5); obtain ⟨x5, rfl, hx5⟩ := hr5)
    | ((exfalso; omega))
    | ((with_reducible refine BIF.dec ?_ ?_) <;> intro _)
    | ((with_reducible refine BIF.s ?_ ?_) <;> intro _)
    | (with_reducible refine NEXTK.normal ?_)
    | (with_reducible refine NEXTK.ret ?_)
    | (with_reducible refine NEXTK.exit ?_)
    | (with_reducible refine SEQ.plain ?_)
    | (with_reducible refine hK _ _ ?_)
    | ((with_reducible refine RUNL.agg (fun _ => ?_) ?_); (focus kernel_rfl))
    | (with_reducible refine RUNL.run ?_)
    | ((with_reducible refine AR.ok ?_ ?_); exact ⟨by first | omega | (dsimp only; omega), by first | omega | (dsimp only; omega)⟩)
    | (with_reducible refine AR.wr ?_)
    | ((with_reducible intro w3 e3); try have z3 := cutLe e3)
    | ((with_reducible intro h3); have h4 := Nat.le_of_lt h3; clear h4)))
  · intro hx
    exact ⟨_, rfl, hx, ⟨_, rfl, by unfold I64; omega⟩, hC.mono (by omega)⟩
  · intro hx
    exact ⟨_, rfl, hx, ⟨_, rfl, by unfold I64; omega⟩, hC.mono (by omega)⟩
  · have hnz : n ≠ 0 := by
      intro e; simp_all
    have his := hr.isSome (by simp; omega)
    conv => whnf
    refine OBL.mk ⟨by omega, by omega, his⟩ (fun _ => ?_)
    conv => whnf
    refine ELD.at (enc := encDmg) (xs := xs) x5.toNat hr (ha.resolve_left hnz) (by omega) (by omega) (fun y hy => ?_)
    have hfy := hf y (List.mem_of_getElem? hy)
    unfold fitDmg at hfy
    repeat (any_goals (
      conv => whnf
      first
      | ((with_reducible refine BIF.dec ?_ ?_) <;> intro _)
      | ((with_reducible refine BIF.s ?_ ?_) <;> intro _)
      | (with_reducible refine NEXTK.normal ?_)
      | (with_reducible refine NEXTK.ret ?_)
      | (with_reducible refine NEXTK.exit ?_)
      | (with_reducible refine SEQ.plain ?_)
      | (with_reducible refine hK _ _ ?_)
      | ((with_reducible refine RUNL.agg (fun _ => ?_) ?_); (focus kernel_rfl))
      | (with_reducible refine RUNL.run ?_)
      | ((with_reducible refine AR.ok ?_ ?_); exact ⟨by first | omega | (dsimp only; omega), by first | omega | (dsimp only; omega)⟩)
      | (with_reducible refine AR.wr ?_)
      | ((with_reducible intro w3 e3); try have z3 := cutLe e3)
      | ((with_reducible intro h3); have h4 := Nat.le_of_lt h3; clear h4)))
    intro hx
    exact ⟨_, rfl, hx, ⟨_, rfl, by unfold I64; omega⟩, hC.mono (by omega)⟩

end Go.Proofs.YtgopcppegjhmiaaDoor

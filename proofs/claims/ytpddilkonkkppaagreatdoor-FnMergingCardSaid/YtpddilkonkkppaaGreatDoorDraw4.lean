/- The draws of entries. -/
import Derived.Test.YtpddilkonkkppaaGreatDoorRows
import Derived.Test.YtpddilkonkkppaaGreatDoorDraw3
namespace Go.Proofs.YtpddilkonkkppaaGreatDoor
open Go Go.X Go.Proofs Go.ChangeShapes Go.WideShapes Go.ChangeAt Go.RowKit
open Go.ChangeMaps (open_string shut_string)
set_option maxHeartbeats 1000000
set_option maxRecDepth 20000
set_option linter.unusedVariables false
set_option linter.unusedSimpArgs false
theorem OwnT.cur {T : TypeId} {w0 w w' : World} {b : Nat} {cd : Cd} {k0 : Int} {v : Value} {lo : Nat} {ts : List Tri} (o : OwnT w lo v ts) (h0 : Cur T w0 b cd k0) (hl : w0.heap.size ≤ lo) (x : Ext (onB b) w w') : OwnT w' lo v ts :=
  ⟨o.top.cur h0 hl x, fun t ht => (o.sub t ht).cur h0 hl x, o.off, o.two⟩
theorem OwnT.snoc {w w' : World} {lo : Nat} {v v' : Value} {ts : List Tri} {t : Tri} (h : OwnT w lo v ts) (oE : Own w lo 3 1 t.sl (t.1.fSeen.map encI)) (hfr : ∀ u ∈ ts, ∀ b, u.sl.ownBlock = some b → t.sl.ownBlock ≠ some b)
    (x : Ext (fun k => v.ownBlock = some k) w w') (o2 : Own w' lo 46 6 v' ((ts ++ [t]).map encT)) : OwnT w' lo v' (ts ++ [t]) := by
  refine OwnT.mk' o2 (fun u hu => ?_) (pw_snoc h.two hfr)
  rcases List.mem_append.1 hu with hu | hu
  · exact (h.sub u hu).ext x (fun b hb hb2 => own_ne h.top (h.sub u hu) (by decide) hb2 hb)
  · rw [List.mem_singleton.1 hu]
    exact oE.ext x (fun b hb hb2 => own_ne h.top oE (by decide) hb2 hb)
def RLT (lo : Nat) (w' : World) (v : Value) : Prop := ∃ ts : List Tri, ts.length ≤ 14 ∧ (∀ t ∈ ts, fitE t) ∧ OwnT w' lo v ts
def hillS : ByteArray := ⟨#[104, 105, 108, 108]⟩
def hillT (n : Nat) : Tri := (⟨300 + n, hillS, ByteArray.empty, 0, 0, []⟩, none, 0)
theorem fit_snoc {ts : List Tri} {t : Tri} (h : ∀ u ∈ ts, fitE u) (ht : fitE t) : ∀ u ∈ ts ++ [t], fitE u := by
  intro u hu
  rcases List.mem_append.1 hu with hu | hu
  · exact h u hu
  · rw [List.mem_singleton.1 hu]; exact ht
theorem entries_c (b : Nat) (cd : Cd) (k : Int) (w : World) (hC : Cu w b cd k) (hk : 0 ≤ k ∧ k ≤ 800000000000) :
    Calls Tryz.prog 57 #[.pointer (some ⟨b, 0, none⟩)] w fun e w' => ∃ v, e = .returned v ∧ Ext (onB b) w w' ∧ RLT w.heap.size w' v ∧ Cu w' b cd (k + 600) := by
  refine enterK (onB b) 48 Tryz.func57 rfl rfl rfl fun K hK => ?_
  have hb := hC.lt
  have h0 := hC
  repeat (any_goals (
    conv => whnf
    first
    | ((with_reducible refine BIF.dec ?_ ?_) <;> intro _)
    | ((with_reducible refine BIF.s ?_ ?_) <;> intro _)
    | (with_reducible refine NEXTK.normal ?_)
    | (with_reducible refine NEXTK.ret ?_)
    | (with_reducible refine NEXTK.exit ?_)
    | (with_reducible refine SEQ.plain ?_)
    | (with_reducible refine hK _ _ ?_)
    | ((with_reducible refine RUNL.agg (fun _ => ?_) ?_); (focus kernel_rfl))
    | (with_reducible refine RUNL.run ?_)
    | ((with_reducible refine AR.ok ?_ ?_); exact ⟨by first | omega | (dsimp only; omega), by first | omega | (dsimp only; omega)⟩)
    | (with_reducible refine AR.wr ?_)
    | ((with_reducible intro w3 e3); try have z3 := cutLe e3)
    | ((with_reducible intro h3); have h4 := Nat.le_of_lt h3; clear h4)))
  conv => whnf
  refine bsS elemT [] rfl rfl (by simp) (by omega) (fun w9 e9 oN => ?_)
  have z9 := cutLe e9
  replace hC := hC.e0 e9
  have hown : OwnT w9 w.heap.size (.slice (some ⟨w.heap.size, 0, none⟩) 0 0) [] := OwnT.mk' oN (by simp) List.Pairwise.nil
  clear oN
  repeat (any_goals (
    conv => whnf
    first
    | ((with_reducible refine BIF.dec ?_ ?_) <;> intro _)
    | ((with_reducible refine BIF.s ?_ ?_) <;> intro _)
    | (with_reducible refine NEXTK.normal ?_)
    | (with_reducible refine NEXTK.ret ?_)
    | (with_reducible refine NEXTK.exit ?_)
    | (with_reducible refine SEQ.plain ?_)
    | (with_reducible refine hK _ _ ?_)
    | ((with_reducible refine RUNL.agg (fun _ => ?_) ?_); (focus kernel_rfl))
    | (with_reducible refine RUNL.run ?_)
    | ((with_reducible refine AR.ok ?_ ?_); exact ⟨by first | omega | (dsimp only; omega), by first | omega | (dsimp only; omega)⟩)
    | (with_reducible refine AR.wr ?_)
    | ((with_reducible intro w3 e3); try have z3 := cutLe e3)
    | ((with_reducible intro h3); have h4 := Nat.le_of_lt h3; clear h4)))
  conv => whnf
  refine LOOP.mk (Nat × (Option Addr × Nat) × List Tri) (fun g => [(3, .v (.slice g.2.1.1 g.2.2.length g.2.1.2)), (4, .v (.int .i64 ((g.1 : Int) + 1)))])
    (fun g wr => g.1 ≤ 6 ∧ w.heap.size ≤ wr.heap.size ∧ g.2.2.length ≤ g.1 ∧ (∀ t ∈ g.2.2, fitE t) ∧ OwnT wr w.heap.size (.slice g.2.1.1 g.2.2.length g.2.1.2) g.2.2 ∧ Cu wr b cd (k + 50 * g.1)) (fun g => 6 - g.1) (0, (some ⟨w.heap.size, 0, none⟩, 0), []) rfl ⟨rfl, rfl, trivial⟩ ⟨by simp only; omega, by dsimp only; omega, by simp, by simp, hown, hC.mono (by simp only; omega)⟩ ?_
  clear hown hC
  rintro ⟨j, ⟨a1, c1⟩, ts⟩ wr - ⟨hj, hz, hlen, hfit, hown, hC⟩
  simp only at hj hz hlen hfit hown hC
  dsimp only
  have hold : ∀ u ∈ ts, ∀ b, u.sl.ownBlock = some b → b < wr.heap.size := fun u hu b hb => ((hown.sub u hu).block hb).2
  conv => whnf
  repeat (first | ((with_reducible refine NEXTK.normal ?_); conv => whnf) | ((with_reducible refine NEXTK.exit ?_); conv => whnf) | ((with_reducible refine NEXTK.ret ?_); conv => whnf) | ((with_reducible refine SEQ.plain ?_); conv => whnf) | ((with_reducible refine AR.ok ?_ ?_); exact ⟨by omega, by omega⟩; conv => whnf))
  refine BIF.dec (fun hlt => ?_) (fun hlt => ?_)
  · repeat (any_goals (
      conv => whnf
      first
      | ((with_reducible intro w3 e3); have z3 := cutLe e3; (try replace hC := (by first | exact hC.e0 e3 | exact hC.past h0 e3 (fun j hj e => by simp only [bk] at e; omega))); (try replace hown := (by first | exact hown.e0 e3 | exact hown.ext e3 (by intro kk hkk h; have hh := (hown.block hkk).1; simp only [bk] at h; omega))); (try replace hown2 := (by first | exact hown2.e0 e3 | exact hown2.ext e3 (by intro kk hkk h; have hh := (hown2.block hkk).1; simp only [bk] at h; omega))))
      | ((with_reducible refine callM (g := 86) ?_ ?_); kernel_rfl; refine ⟨onB _, _, (by repeat (first | exact trivial | (refine ⟨?_, ?_⟩; (focus (show ¬ _ = _; dsimp only; omega))))), (by first | exact fun _ _ hj => hj | (intro j hj hjb; unfold onB at hjb; exfalso; omega)), one_c _ _ _ _ _ hC (by omega), ?_⟩; intro r5 w5 e5 h5; have z5 := cutLe e5; obtain ⟨hr5, hC⟩ := h5; (try replace hown := hown.cur h0 (by omega) e5); (try replace hown2 := hown2.cur h0 (by omega) e5); (try replace oB := oB.cur h0 (by omega) e5); (try replace hE := hE.trans e5); obtain ⟨x5, rfl, hx5⟩ := hr5)
      | ((with_reducible refine callM (g := 87) ?_ ?_); kernel_rfl; refine ⟨onB _, _, (by repeat (first | exact trivial | (refine ⟨?_, ?_⟩; (focus (show ¬ _ = _; dsimp only; omega))))), (by first | exact fun _ _ hj => hj | (intro j hj hjb; unfold onB at hjb; exfalso; omega)), entry_c _ _ _ _ _ hC (by omega) (by omega), ?_⟩; intro r5 w5 e5 h5; have z5 := cutLe e5; obtain ⟨hr5, hC⟩ := h5; (try replace hown := hown.cur h0 (by omega) e5); (try replace hown2 := hown2.cur h0 (by omega) e5); (try replace oB := oB.cur h0 (by omega) e5); (try replace hE := hE.trans e5); obtain ⟨x5, rfl, hx5⟩ := hr5)
      | ((with_reducible refine bsS elemT [.agg (encT x5).toArray] ?_ ?_ ?_ ?_ ?_); (focus rfl); (focus rfl); (focus (intro v hv; simp at hv; subst hv; rfl)); (focus omega); intro w9 e9 oB; have z9 := cutLe e9; (try replace oC := oC.e0 e9))
      | ((with_reducible refine BIF.dec ?_ ?_) <;> intro _)
      | ((with_reducible refine BIF.s ?_ ?_) <;> intro _)
      | (with_reducible refine NEXTK.normal ?_)
      | (with_reducible refine NEXTK.ret ?_)
      | (with_reducible refine NEXTK.exit ?_)
      | (with_reducible refine SEQ.plain ?_)
      | (with_reducible refine hK _ _ ?_)
      | ((with_reducible refine RUNL.agg (fun _ => ?_) ?_); (focus kernel_rfl))
      | (with_reducible refine RUNL.run ?_)
      | ((with_reducible refine AR.ok ?_ ?_); exact ⟨by first | omega | (dsimp only; omega), by first | omega | (dsimp only; omega)⟩)
      | (with_reducible refine AR.wr ?_)
      | ((with_reducible intro w3 e3); try have z3 := cutLe e3)
      | ((with_reducible intro h3); have h4 := Nat.le_of_lt h3; clear h4)))
    · conv => whnf
      obtain ⟨hf5, oE⟩ := hx5
      replace hC := hC.e0 e9
      replace hown := hown.e0 e9
      replace oE := oE.e0 e9
      refine apS (ns := [encT x5]) elemT hown.top oB.row.1 rfl (by intro l hl; simp at hl; subst hl; rfl) ⟨by simp; omega, by simp; omega⟩ ⟨(by show w.heap.size ≤ _; omega), by omega⟩ trivial (fun v2 w2 x2 o2 => ?_)
      have z2 := cutLe x2
      replace hC := hC.own h0 x2 hown.top (by omega)
      have hfr : ∀ u ∈ ts, ∀ g, u.sl.ownBlock = some g → x5.sl.ownBlock ≠ some g := fun u hu g hg hg2 => by
        have h1 := hold u hu g hg
        have h2 := (oE.block hg2).1
        omega
      replace hown := hown.snoc (oE.lo (lo' := w.heap.size) (by omega)) hfr x2 (by simpa using o2)
      have hzf := fit_snoc hfit hf5
      obtain ⟨zs, hzs⟩ : ∃ zs, zs = ts ++ [x5] := ⟨_, rfl⟩
      have hzl : zs.length = ts.length + 1 := by rw [hzs]; simp
      rw [← hzs] at hown hzf
      obtain ⟨b2, d2, rfl, q2, p2⟩ := hown.top.rowx
      repeat (any_goals (
        conv => whnf
        first
        | ((with_reducible intro w3 e3); have z3 := cutLe e3; (try replace hC := (by first | exact hC.e0 e3 | exact hC.past h0 e3 (fun j hj e => by simp only [bk] at e; omega))); (try replace hown := (by first | exact hown.e0 e3 | exact hown.ext e3 (by intro kk hkk h; have hh := (hown.block hkk).1; simp only [bk] at h; omega))); (try replace hown2 := (by first | exact hown2.e0 e3 | exact hown2.ext e3 (by intro kk hkk h; have hh := (hown2.block hkk).1; simp only [bk] at h; omega))))
        | ((with_reducible refine BIF.dec ?_ ?_) <;> intro _)
        | ((with_reducible refine BIF.s ?_ ?_) <;> intro _)
        | (with_reducible refine NEXTK.normal ?_)
        | (with_reducible refine NEXTK.ret ?_)
        | (with_reducible refine NEXTK.exit ?_)
        | (with_reducible refine SEQ.plain ?_)
        | (with_reducible refine hK _ _ ?_)
        | ((with_reducible refine RUNL.agg (fun _ => ?_) ?_); (focus kernel_rfl))
        | (with_reducible refine RUNL.run ?_)
        | ((with_reducible refine AR.ok ?_ ?_); exact ⟨by first | omega | (dsimp only; omega), by first | omega | (dsimp only; omega)⟩)
        | (with_reducible refine AR.wr ?_)
        | ((with_reducible intro w3 e3); try have z3 := cutLe e3)
        | ((with_reducible intro h3); have h4 := Nat.le_of_lt h3; clear h4)))
      exact ⟨(j + 1, (b2, d2), zs), rfl, ⟨rfl, rfl, trivial⟩, rfl, rfl, ⟨by simp only; omega, by dsimp only; omega, by simp only; omega, hzf, hown, hC.mono (by simp only; omega)⟩, by simp only; omega⟩
    · exact ⟨(j + 1, (a1, c1), ts), rfl, ⟨rfl, rfl, trivial⟩, rfl, rfl, ⟨by simp only; omega, by dsimp only; omega, by simp only; omega, hfit, hown, hC.mono (by simp only; omega)⟩, by simp only; omega⟩
  · repeat (any_goals (
      conv => whnf
      first
      | ((with_reducible intro w3 e3); have z3 := cutLe e3; (try replace hC := (by first | exact hC.e0 e3 | exact hC.past h0 e3 (fun j hj e => by simp only [bk] at e; omega))); (try replace hown := (by first | exact hown.e0 e3 | exact hown.ext e3 (by intro kk hkk h; have hh := (hown.block hkk).1; simp only [bk] at h; omega))); (try replace hown2 := (by first | exact hown2.e0 e3 | exact hown2.ext e3 (by intro kk hkk h; have hh := (hown2.block hkk).1; simp only [bk] at h; omega))))
      | ((with_reducible refine callM (g := 88) ?_ ?_); kernel_rfl; refine ⟨onB _, _, (by repeat (first | exact trivial | (refine ⟨?_, ?_⟩; (focus (show ¬ _ = _; dsimp only; omega))))), (by first | exact fun _ _ hj => hj | (intro j hj hjb; unfold onB at hjb; exfalso; omega)), pick_c _ _ _ _ _ hC (by omega), ?_⟩; intro r5 w5 e5 h5; have z5 := cutLe e5; obtain ⟨hr5, hC⟩ := h5; (try replace hown := hown.cur h0 (by omega) e5); (try replace hown2 := hown2.cur h0 (by omega) e5); (try replace oB := oB.cur h0 (by omega) e5); (try replace hE := hE.trans e5); obtain ⟨x5, rfl, hx5⟩ := hr5)
      | ((with_reducible refine BIF.beq ?_ ?_) <;> intro hq)
      | ((with_reducible refine bsI ?_ ?_ ?_ ?_ ?_); (focus rfl); (focus rfl); (focus omega); (focus rfl); intro w9 e9 oB; have z9 := cutLe e9; replace hC := hC.e0 e9; (try replace hown := hown.e0 e9); (try replace hown2 := hown2.e0 e9); (try replace hE := hE.trans (Ext.of0 e9)))
      | ((with_reducible refine callM (g := 89) ?_ ?_); kernel_rfl; refine ⟨onB _, _, (by repeat (first | exact trivial | (refine ⟨?_, ?_⟩; (focus (show ¬ _ = _; dsimp only; omega))))), (by first | exact fun _ _ hj => hj | (intro j hj hjb; unfold onB at hjb; exfalso; omega)), among_c _ _ _ _ _ _ _ (fun r => 0 ≤ r ∧ r ≤ 999) _ hC (by omega) oB.row.1 (by first | rfl | (simp; omega)) (by omega) (notOn (by omega)) (by intro y hy; unfold intsOf at hy; simp at hy; omega), ?_⟩; intro r5 w5 e5 h5; have z5 := cutLe e5; obtain ⟨hr5, hC⟩ := h5; (try replace hown := hown.cur h0 (by omega) e5); (try replace hown2 := hown2.cur h0 (by omega) e5); (try replace oB := oB.cur h0 (by omega) e5); (try replace hE := hE.trans e5); obtain ⟨x5, rfl, hx5⟩ := hr5)
      | ((with_reducible refine callM (g := 87) ?_ ?_); kernel_rfl; refine ⟨onB _, _, (by repeat (first | exact trivial | (refine ⟨?_, ?_⟩; (focus (show ¬ _ = _; dsimp only; omega))))), (by first | exact fun _ _ hj => hj | (intro j hj hjb; unfold onB at hjb; exfalso; omega)), entry_c _ _ _ _ _ hC (by omega) (by omega), ?_⟩; intro r5 w5 e5 h5; have z5 := cutLe e5; obtain ⟨hr5, hC⟩ := h5; (try replace hown := hown.cur h0 (by omega) e5); (try replace hown2 := hown2.cur h0 (by omega) e5); (try replace oB := oB.cur h0 (by omega) e5); (try replace hE := hE.trans e5); obtain ⟨x5, rfl, hx5⟩ := hr5)
      | ((with_reducible refine bsS elemT [.agg (encT x5).toArray] ?_ ?_ ?_ ?_ ?_); (focus rfl); (focus rfl); (focus (intro v hv; simp at hv; subst hv; rfl)); (focus omega); intro w9 e9 oB; have z9 := cutLe e9; (try replace oC := oC.e0 e9))
      | ((with_reducible refine BIF.dec ?_ ?_) <;> intro _)
      | ((with_reducible refine BIF.s ?_ ?_) <;> intro _)
      | (with_reducible refine NEXTK.normal ?_)
      | (with_reducible refine NEXTK.ret ?_)
      | (with_reducible refine NEXTK.exit ?_)
      | (with_reducible refine SEQ.plain ?_)
      | (with_reducible refine hK _ _ ?_)
      | ((with_reducible refine RUNL.agg (fun _ => ?_) ?_); (focus kernel_rfl))
      | (with_reducible refine RUNL.run ?_)
      | ((with_reducible refine AR.ok ?_ ?_); exact ⟨by first | omega | (dsimp only; omega), by first | omega | (dsimp only; omega)⟩)
      | (with_reducible refine AR.wr ?_)
      | ((with_reducible intro w3 e3); try have z3 := cutLe e3)
      | ((with_reducible intro h3); have h4 := Nat.le_of_lt h3; clear h4)))
    · conv => whnf
      obtain ⟨hf5, oE⟩ := hx5
      replace hC := hC.e0 e9
      replace hown := hown.e0 e9
      replace oE := oE.e0 e9
      refine apS (ns := [encT x5]) elemT hown.top oB.row.1 rfl (by intro l hl; simp at hl; subst hl; rfl) ⟨by simp; omega, by simp; omega⟩ ⟨(by show w.heap.size ≤ _; omega), by omega⟩ trivial (fun v2 w2 x2 o2 => ?_)
      have z2 := cutLe x2
      replace hC := hC.own h0 x2 hown.top (by omega)
      have hfr : ∀ u ∈ ts, ∀ g, u.sl.ownBlock = some g → x5.sl.ownBlock ≠ some g := fun u hu g hg hg2 => by
        have h1 := hold u hu g hg
        have h2 := (oE.block hg2).1
        omega
      replace hown := hown.snoc (oE.lo (lo' := w.heap.size) (by omega)) hfr x2 (by simpa using o2)
      have hzf := fit_snoc hfit hf5
      obtain ⟨zs, hzs⟩ : ∃ zs, zs = ts ++ [x5] := ⟨_, rfl⟩
      have hzl : zs.length = ts.length + 1 := by rw [hzs]; simp
      rw [← hzs] at hown hzf
      obtain ⟨b2, d2, rfl, q2, p2⟩ := hown.top.rowx
      repeat (any_goals (
        conv => whnf
        first
        | ((with_reducible intro w3 e3); have z3 := cutLe e3; (try replace hC := (by first | exact hC.e0 e3 | exact hC.past h0 e3 (fun j hj e => by simp only [bk] at e; omega))); (try replace hown := (by first | exact hown.e0 e3 | exact hown.ext e3 (by intro kk hkk h; have hh := (hown.block hkk).1; simp only [bk] at h; omega))); (try replace hown2 := (by first | exact hown2.e0 e3 | exact hown2.ext e3 (by intro kk hkk h; have hh := (hown2.block hkk).1; simp only [bk] at h; omega))))
        | ((with_reducible refine BIF.dec ?_ ?_) <;> intro _)
        | ((with_reducible refine BIF.s ?_ ?_) <;> intro _)
        | (with_reducible refine NEXTK.normal ?_)
        | (with_reducible refine NEXTK.ret ?_)
        | (with_reducible refine NEXTK.exit ?_)
        | (with_reducible refine SEQ.plain ?_)
        | (with_reducible refine hK _ _ ?_)
        | ((with_reducible refine RUNL.agg (fun _ => ?_) ?_); (focus kernel_rfl))
        | (with_reducible refine RUNL.run ?_)
        | ((with_reducible refine AR.ok ?_ ?_); exact ⟨by first | omega | (dsimp only; omega), by first | omega | (dsimp only; omega)⟩)
        | (with_reducible refine AR.wr ?_)
        | ((with_reducible intro w3 e3); try have z3 := cutLe e3)
        | ((with_reducible intro h3); have h4 := Nat.le_of_lt h3; clear h4)))
      intro hx
      exact ⟨_, rfl, hx, ⟨zs, by omega, hzf, hown⟩, hC.mono (by omega)⟩
    · conv => whnf
      refine LOOP.mk ((Option Addr × Nat) × List Tri) (fun g => [(3, .v (.slice g.1.1 g.2.length g.1.2))])
        (fun g wr2 => g.2.length ≤ 13 ∧ w.heap.size ≤ wr2.heap.size ∧ (∀ t ∈ g.2, fitE t) ∧ OwnT wr2 w.heap.size (.slice g.1.1 g.2.length g.1.2) g.2 ∧ Cu wr2 b cd (k + 400 + 4 * g.2.length)) (fun g => 14 - g.2.length) ((a1, c1), ts) rfl ⟨rfl, trivial⟩ ⟨by simp only; omega, by dsimp only; omega, hfit, hown, hC.mono (by simp only; omega)⟩ ?_
      clear hown hC
      rintro ⟨⟨a2, c2⟩, us⟩ ws - ⟨hul, hz2, hfu, hown, hC⟩
      simp only at hul hz2 hfu hown hC
      dsimp only
      repeat (any_goals (
        conv => whnf
        first
        | ((with_reducible intro w3 e3); have z3 := cutLe e3; (try replace hC := (by first | exact hC.e0 e3 | exact hC.past h0 e3 (fun j hj e => by simp only [bk] at e; omega))); (try replace hown := (by first | exact hown.e0 e3 | exact hown.ext e3 (by intro kk hkk h; have hh := (hown.block hkk).1; simp only [bk] at h; omega))); (try replace hown2 := (by first | exact hown2.e0 e3 | exact hown2.ext e3 (by intro kk hkk h; have hh := (hown2.block hkk).1; simp only [bk] at h; omega))))
        | ((with_reducible refine callM (g := 88) ?_ ?_); kernel_rfl; refine ⟨onB _, _, (by repeat (first | exact trivial | (refine ⟨?_, ?_⟩; (focus (show ¬ _ = _; dsimp only; omega))))), (by first | exact fun _ _ hj => hj | (intro j hj hjb; unfold onB at hjb; exfalso; omega)), pick_c _ _ _ _ _ hC (by omega), ?_⟩; intro r5 w5 e5 h5; have z5 := cutLe e5; obtain ⟨hr5, hC⟩ := h5; (try replace hown := hown.cur h0 (by omega) e5); (try replace hown2 := hown2.cur h0 (by omega) e5); (try replace oB := oB.cur h0 (by omega) e5); (try replace hE := hE.trans e5); obtain ⟨x5, rfl, hx5⟩ := hr5)
        | ((with_reducible refine BIF.dec ?_ ?_) <;> intro hlt2)
        | ((with_reducible refine RUNL.lit (.agg #[.int .i64 (300 + us.length), .string hillS, .string ByteArray.empty, .int .i64 0, .int .i64 0, .slice none 0 0]) (fun _ => ?_) ?_); (focus kernel_rfl))
        | ((with_reducible refine bsS elemT [.agg (encT (hillT us.length)).toArray] ?_ ?_ ?_ ?_ ?_); (focus rfl); (focus rfl); (focus (intro v hv; simp at hv; subst hv; rfl)); (focus omega); intro w9 e9 oB; have z9 := cutLe e9; (try replace oC := oC.e0 e9))
        | ((with_reducible refine BIF.dec ?_ ?_) <;> intro _)
        | ((with_reducible refine BIF.s ?_ ?_) <;> intro _)
        | (with_reducible refine NEXTK.normal ?_)
        | (with_reducible refine NEXTK.ret ?_)
        | (with_reducible refine NEXTK.exit ?_)
        | (with_reducible refine SEQ.plain ?_)
        | (with_reducible refine hK _ _ ?_)
        | ((with_reducible refine RUNL.agg (fun _ => ?_) ?_); (focus kernel_rfl))
        | (with_reducible refine RUNL.run ?_)
        | ((with_reducible refine AR.ok ?_ ?_); exact ⟨by first | omega | (dsimp only; omega), by first | omega | (dsimp only; omega)⟩)
        | (with_reducible refine AR.wr ?_)
        | ((with_reducible intro w3 e3); try have z3 := cutLe e3)
        | ((with_reducible intro h3); have h4 := Nat.le_of_lt h3; clear h4)))
      · conv => whnf
        replace hC := hC.e0 e9
        replace hown := hown.e0 e9
        have oE : Own w9 w.heap.size 3 1 (hillT us.length).sl ((hillT us.length).1.fSeen.map encI) := Own.nil _ _ _ _
        refine apS (ns := [encT (hillT us.length)]) elemT hown.top oB.row.1 rfl (by intro l hl; simp at hl; subst hl; rfl) ⟨by simp; omega, by simp; omega⟩ ⟨(by show w.heap.size ≤ _; omega), by omega⟩ trivial (fun v2 w2 x2 o2 => ?_)
        have z2 := cutLe x2
        replace hC := hC.own h0 x2 hown.top (by omega)
        have hfr : ∀ u ∈ us, ∀ g, u.sl.ownBlock = some g → (hillT us.length).sl.ownBlock ≠ some g := fun u hu g hg hg2 => by cases hg2
        replace hown := hown.snoc oE hfr x2 (by simpa using o2)
        have hzf := fit_snoc hfu (show fitE (hillT us.length) by unfold fitE hillT; refine ⟨⟨by dsimp only; omega, by dsimp only; omega⟩, by dsimp only; decide, by dsimp only; decide, by dsimp only; decide, by dsimp only; decide, by dsimp only; decide⟩)
        obtain ⟨zs, hzs⟩ : ∃ zs, zs = us ++ [hillT us.length] := ⟨_, rfl⟩
        have hzl : zs.length = us.length + 1 := by rw [hzs]; simp
        rw [← hzs] at hown hzf
        obtain ⟨b2, d2, rfl, q2, p2⟩ := hown.top.rowx
        repeat (any_goals (
          conv => whnf
          first
          | ((with_reducible intro w3 e3); have z3 := cutLe e3; (try replace hC := (by first | exact hC.e0 e3 | exact hC.past h0 e3 (fun j hj e => by simp only [bk] at e; omega))); (try replace hown := (by first | exact hown.e0 e3 | exact hown.ext e3 (by intro kk hkk h; have hh := (hown.block hkk).1; simp only [bk] at h; omega))); (try replace hown2 := (by first | exact hown2.e0 e3 | exact hown2.ext e3 (by intro kk hkk h; have hh := (hown2.block hkk).1; simp only [bk] at h; omega))))
          | ((with_reducible refine BIF.dec ?_ ?_) <;> intro _)
          | ((with_reducible refine BIF.s ?_ ?_) <;> intro _)
          | (with_reducible refine NEXTK.normal ?_)
          | (with_reducible refine NEXTK.ret ?_)
          | (with_reducible refine NEXTK.exit ?_)
          | (with_reducible refine SEQ.plain ?_)
          | (with_reducible refine hK _ _ ?_)
          | ((with_reducible refine RUNL.agg (fun _ => ?_) ?_); (focus kernel_rfl))
          | (with_reducible refine RUNL.run ?_)
          | ((with_reducible refine AR.ok ?_ ?_); exact ⟨by first | omega | (dsimp only; omega), by first | omega | (dsimp only; omega)⟩)
          | (with_reducible refine AR.wr ?_)
          | ((with_reducible intro w3 e3); try have z3 := cutLe e3)
          | ((with_reducible intro h3); have h4 := Nat.le_of_lt h3; clear h4)))
        exact ⟨((b2, d2), zs), rfl, ⟨rfl, trivial⟩, rfl, rfl, ⟨by simp only; omega, by dsimp only; omega, hzf, hown, hC.mono (by simp only; omega)⟩, by simp only; omega⟩
      · intro hx
        exact ⟨_, rfl, hx, ⟨us, by omega, hfu, hown⟩, hC.mono (by omega)⟩
    · intro hx
      exact ⟨_, rfl, hx, ⟨ts, by omega, hfit, hown⟩, hC.mono (by omega)⟩
theorem entryOf_c' (b : Nat) (cd : Cd) (k : Int) (a : Option Addr) (n c : Nat) (ts : List Tri) (w : World) (hC : Cu w b cd k) (hk : 0 ≤ k ∧ k ≤ 900000000000) (hr : Row w a 6 (ts.map encT)) (hn : ts.length = n) (hm : n ≤ 1000) (ha : n = 0 ∨ ¬ mAddr (onB b) a) (hf : ∀ t ∈ ts, fitE t) :
    Calls Tryz.prog 58 #[.pointer (some ⟨b, 0, none⟩), .slice a n c] w fun e w' => ∃ v, e = .returned v ∧ Ext (onB b) w w' ∧ RI (fun r => -100000 ≤ r ∧ r ≤ 100000) v ∧ Cu w' b cd (k + 8) := by
  refine enterK (onB b) 23 Tryz.func58 rfl rfl rfl fun K hK => ?_
  have hb := hC.lt
  have h0 := hC
  repeat (any_goals (
    conv => whnf
    first
    | ((with_reducible intro w3 e3); have z3 := cutLe e3; (try replace hC := (by first | exact hC.e0 e3 | exact hC.past h0 e3 (fun j hj e => by simp only [bk] at e; omega))); (try replace hown := (by first | exact hown.e0 e3 | exact hown.ext e3 (by intro kk hkk h; have hh := (hown.block hkk).1; simp only [bk] at h; omega))); (try replace hown2 := (by first | exact hown2.e0 e3 | exact hown2.ext e3 (by intro kk hkk h; have hh := (hown2.block hkk).1; simp only [bk] at h; omega))))
    | ((with_reducible refine bsI ?_ ?_ ?_ ?_ ?_); (focus rfl); (focus rfl); (focus omega); (focus rfl); intro w9 e9 oB; have z9 := cutLe e9; replace hC := hC.e0 e9; (try replace hown := hown.e0 e9); (try replace hown2 := hown2.e0 e9); (try replace hE := hE.trans (Ext.of0 e9)))
    | ((with_reducible refine callM (g := 89) ?_ ?_); kernel_rfl; refine ⟨onB _, _, (by repeat (first | exact trivial | (refine ⟨?_, ?_⟩; (focus (show ¬ _ = _; dsimp only; omega))))), (by first | exact fun _ _ hj => hj | (intro j hj hjb; unfold onB at hjb; exfalso; omega)), among_c _ _ _ _ _ _ _ (fun r => 0 ≤ r ∧ r ≤ 999) _ hC (by omega) oB.row.1 (by first | rfl | (simp; omega)) (by omega) (notOn (by omega)) (by intro y hy; unfold intsOf at hy; simp at hy; omega), ?_⟩; intro r5 w5 e5 h5; have z5 := cutLe e5; obtain ⟨hr5, hC⟩ := h5; (try replace hown := hown.cur h0 (by omega) e5); (try replace hown2 := hown2.cur h0 (by omega) e5); (try replace oB := oB.cur h0 (by omega) e5); (try replace hE := hE.trans e5); obtain ⟨x5, rfl, hx5⟩ := hr5)
    | ((with_reducible refine BIF.beq ?_ ?_) <;> intro hn0)
    | ((with_reducible refine callM (g := 86) ?_ ?_); kernel_rfl; refine ⟨onB _, _, (by repeat (first | exact trivial | (refine ⟨?_, ?_⟩; (focus (show ¬ _ = _; dsimp only; omega))))), (by first | exact fun _ _ hj => hj | (intro j hj hjb; unfold onB at hjb; exfalso; omega)), one_c _ _ _ _ _ hC (by omega), ?_⟩; intro r5 w5 e5 h5; have z5 := cutLe e5; obtain ⟨hr5, hC⟩ := h5; (try replace hown := hown.cur h0 (by omega) e5); (try replace hown2 := hown2.cur h0 (by omega) e5); (try replace oB := oB.cur h0 (by omega) e5); (try replace hE := hE.trans e5); obtain ⟨x5, rfl, hx5⟩ := hr5)
    | ((with_reducible refine callM (g := 88) ?_ ?_); kernel_rfl; refine ⟨onB _, _, (by repeat (first | exact trivial | (refine ⟨?_, ?_⟩; (focus (show ¬ _ = _; dsimp only; omega))))), (by first | exact fun _ _ hj => hj | (intro j hj hjb; unfold onB at hjb; exfalso; omega)), pick_c _ _ _ _ _ hC (by omega), ?_⟩; intro r5 w5 e5 h5; have z5 := cutLe e5; obtain ⟨hr5, hC⟩ := h5; (try replace hown := hown.cur h0 (by omega) e5); (try replace hown2 := hown2.cur h0 (by omega) e5); (try replace oB := oB.cur h0 (by omega) e5); (try replace hE := hE.trans e5); obtain ⟨x5, rfl, hx5⟩ := hr5)
    | ((with_reducible refine BIF.dec ?_ ?_) <;> intro _)
    | ((with_reducible refine BIF.s ?_ ?_) <;> intro _)
    | (with_reducible refine NEXTK.normal ?_)
    | (with_reducible refine NEXTK.ret ?_)
    | (with_reducible refine NEXTK.exit ?_)
    | (with_reducible refine SEQ.plain ?_)
    | (with_reducible refine hK _ _ ?_)
    | ((with_reducible refine RUNL.agg (fun _ => ?_) ?_); (focus kernel_rfl))
    | (with_reducible refine RUNL.run ?_)
    | ((with_reducible refine AR.ok ?_ ?_); exact ⟨by first | omega | (dsimp only; omega), by first | omega | (dsimp only; omega)⟩)
    | (with_reducible refine AR.wr ?_)
    | ((with_reducible intro w3 e3); try have z3 := cutLe e3)
    | ((with_reducible intro h3); have h4 := Nat.le_of_lt h3; clear h4)))
  · intro hx
    exact ⟨_, rfl, hx, ⟨_, rfl, by omega, by omega⟩, hC.mono (by omega)⟩
  · intro hx
    exact ⟨_, rfl, hx, ⟨_, rfl, by omega, by omega⟩, hC.mono (by omega)⟩
  · have hnz : n ≠ 0 := fun e => hn0 (by omega)
    have his := hr.isSome (by simp; omega)
    conv => whnf
    refine OBL.mk ⟨by omega, by omega, his⟩ (fun _ => ?_)
    conv => whnf
    refine ELD.at (enc := encT) (xs := ts) x5.toNat hr (ha.resolve_left hnz) (by omega) (by omega) (fun y hy => ?_)
    have hfy := (hf y (List.mem_of_getElem? hy)).1
    repeat (any_goals (
      conv => whnf
      first
      | ((with_reducible intro w3 e3); have z3 := cutLe e3; (try replace hC := (by first | exact hC.e0 e3 | exact hC.past h0 e3 (fun j hj e => by simp only [bk] at e; omega))); (try replace hown := (by first | exact hown.e0 e3 | exact hown.ext e3 (by intro kk hkk h; have hh := (hown.block hkk).1; simp only [bk] at h; omega))); (try replace hown2 := (by first | exact hown2.e0 e3 | exact hown2.ext e3 (by intro kk hkk h; have hh := (hown2.block hkk).1; simp only [bk] at h; omega))))
      | ((with_reducible refine BIF.dec ?_ ?_) <;> intro _)
      | ((with_reducible refine BIF.s ?_ ?_) <;> intro _)
      | (with_reducible refine NEXTK.normal ?_)
      | (with_reducible refine NEXTK.ret ?_)
      | (with_reducible refine NEXTK.exit ?_)
      | (with_reducible refine SEQ.plain ?_)
      | (with_reducible refine hK _ _ ?_)
      | ((with_reducible refine RUNL.agg (fun _ => ?_) ?_); (focus kernel_rfl))
      | (with_reducible refine RUNL.run ?_)
      | ((with_reducible refine AR.ok ?_ ?_); exact ⟨by first | omega | (dsimp only; omega), by first | omega | (dsimp only; omega)⟩)
      | (with_reducible refine AR.wr ?_)
      | ((with_reducible intro w3 e3); try have z3 := cutLe e3)
      | ((with_reducible intro h3); have h4 := Nat.le_of_lt h3; clear h4)))
    intro hx
    exact ⟨_, rfl, hx, ⟨_, rfl, by omega, by omega⟩, hC.mono (by omega)⟩

def RD (lo : Nat) (w' : World) (s : Value) (ts : List Tri) : Prop := ts.length ≤ 14 ∧ (∀ t ∈ ts, fitE t) ∧ OwnT w' lo s ts
theorem DrawAreAlike_c (a : Option Addr) (n c : Nat) (bs : List Int) (w : World) (hr : Row w a 1 (bs.map encB)) (hn : bs.length = n) (hsm : n ≤ 65536) (hby : ∀ y ∈ bs, 0 ≤ y ∧ y ≤ 255) :
    Calls Tryz.prog 27 #[.slice a n c] w fun e w' => ∃ v, e = .returned v ∧ E0 w w' ∧ ∃ s ts p q, v = .tuple #[s, .int .i64 p, .int .i64 q] ∧ (-100000 ≤ p ∧ p ≤ 100000) ∧ (-100000 ≤ q ∧ q ≤ 100000) ∧ RD w.heap.size w' s ts := by
  refine enterKF Non 19 Tryz.func27 rfl rfl rfl fun K hK => ?_
  repeat (any_goals (
    conv => whnf
    first
    | ((with_reducible refine RUNL.cur (fun _ => ?_) ?_); (focus kernel_rfl))
    | ((with_reducible intro w3 e3); have s3 := e3.size; have z3 := cutLe e3.ext; have hC := Cur.new e3 (by repeat (first | assumption | refine Row.e0 ?_ (by assumption))) hn hsm hby; have h0 := hC)
    | ((with_reducible intro w3 e3); have z3 := cutLe e3; (try replace hC := (by first | exact hC.e0 e3 | exact hC.past h0 e3 (fun j hj e => by simp only [bk] at e; omega))); (try replace hown := (by first | exact hown.e0 e3 | exact hown.ext e3 (by intro kk hkk h; have hh := (hown.block hkk).1; simp only [bk] at h; omega))); (try replace hown2 := (by first | exact hown2.e0 e3 | exact hown2.ext e3 (by intro kk hkk h; have hh := (hown2.block hkk).1; simp only [bk] at h; omega))))
    | ((with_reducible refine callM (g := 57) ?_ ?_); kernel_rfl; refine ⟨onB _, _, (by repeat (first | exact trivial | (refine ⟨?_, ?_⟩; (focus (show ¬ _ = _; dsimp only; omega))))), (by first | exact fun _ _ hj => hj | (intro j hj hjb; unfold onB at hjb; exfalso; omega)), entries_c _ _ _ _ hC (by omega), ?_⟩; intro r5 w5 e5 h5; have z5 := cutLe e5; obtain ⟨hr5, hC⟩ := h5; (try replace hown := hown.cur h0 (by omega) e5); (try replace hown2 := hown2.cur h0 (by omega) e5); (try replace oB := oB.cur h0 (by omega) e5); (try replace hE := hE.trans e5); obtain ⟨ts5, hl5, hf5, o5⟩ := hr5; obtain ⟨a5, c5, rfl, q5, p5⟩ := o5.top.rowx; have hown := o5)
    | ((with_reducible refine callM (g := 58) ?_ ?_); kernel_rfl; refine ⟨onB _, _, (by repeat (first | exact trivial | (refine ⟨?_, ?_⟩; (focus (show ¬ _ = _; dsimp only; omega))))), (by first | exact fun _ _ hj => hj | (intro j hj hjb; unfold onB at hjb; exfalso; omega)), entryOf_c' _ _ _ _ _ _ ts5 _ hC (by omega) hown.top.row.1 rfl (by omega) (ownOff hown.top (by omega)) hf5, ?_⟩; intro r5 w5 e5 h5; have z5 := cutLe e5; obtain ⟨hr5, hC⟩ := h5; (try replace hown := hown.cur h0 (by omega) e5); (try replace hown2 := hown2.cur h0 (by omega) e5); (try replace oB := oB.cur h0 (by omega) e5); (try replace hE := hE.trans e5); obtain ⟨x5, rfl, hx5⟩ := hr5)
    | ((with_reducible refine BIF.dec ?_ ?_) <;> intro _)
    | ((with_reducible refine BIF.s ?_ ?_) <;> intro _)
    | (with_reducible refine NEXTK.normal ?_)
    | (with_reducible refine NEXTK.ret ?_)
    | (with_reducible refine NEXTK.exit ?_)
    | (with_reducible refine SEQ.plain ?_)
    | (with_reducible refine hK _ _ ?_)
    | ((with_reducible refine RUNL.agg (fun _ => ?_) ?_); (focus kernel_rfl))
    | (with_reducible refine RUNL.run ?_)
    | ((with_reducible refine AR.ok ?_ ?_); exact ⟨by first | omega | (dsimp only; omega), by first | omega | (dsimp only; omega)⟩)
    | (with_reducible refine AR.wr ?_)
    | ((with_reducible intro w3 e3); try have z3 := cutLe e3)
    | ((with_reducible intro h3); have h4 := Nat.le_of_lt h3; clear h4)))
  all_goals
    intro hx
    exact ⟨_, rfl, hx, _, ts5, _, _, rfl, by omega, by omega, hl5, hf5, hown.lo (by omega)⟩
theorem DrawMergeTwo_c (a : Option Addr) (n c : Nat) (bs : List Int) (w : World) (hr : Row w a 1 (bs.map encB)) (hn : bs.length = n) (hsm : n ≤ 65536) (hby : ∀ y ∈ bs, 0 ≤ y ∧ y ≤ 255) :
    Calls Tryz.prog 16 #[.slice a n c] w fun e w' => ∃ v, e = .returned v ∧ E0 w w' ∧ ∃ s ts p q, v = .tuple #[s, .int .i64 p, .int .i64 q] ∧ (-100000 ≤ p ∧ p ≤ 100000) ∧ (-100000 ≤ q ∧ q ≤ 100000) ∧ RD w.heap.size w' s ts := by
  refine enterK Non 10 Tryz.func16 rfl rfl rfl fun K hK => ?_
  repeat (any_goals (
    conv => whnf
    first
    | ((with_reducible refine callS (g := 27) ?_ ?_); kernel_rfl; refine ⟨_, DrawAreAlike_c _ _ _ bs _ (by repeat (first | assumption | refine Row.e0 ?_ (by assumption) | (refine Row.box (by assumption) (by assumption) (fun k hk h => notBk hk h (Nat.le_refl _)) ?_))) hn hsm hby, ?_⟩; intro r5 w5 e5 h5; have z5 := cutLe e5; obtain ⟨s5, ts, p, q, rfl, hp, hq, hD⟩ := h5)
    | ((with_reducible refine BIF.dec ?_ ?_) <;> intro _)
    | ((with_reducible refine BIF.s ?_ ?_) <;> intro _)
    | (with_reducible refine NEXTK.normal ?_)
    | (with_reducible refine NEXTK.ret ?_)
    | (with_reducible refine NEXTK.exit ?_)
    | (with_reducible refine SEQ.plain ?_)
    | (with_reducible refine hK _ _ ?_)
    | ((with_reducible refine RUNL.agg (fun _ => ?_) ?_); (focus kernel_rfl))
    | (with_reducible refine RUNL.run ?_)
    | ((with_reducible refine AR.ok ?_ ?_); exact ⟨by first | omega | (dsimp only; omega), by first | omega | (dsimp only; omega)⟩)
    | (with_reducible refine AR.wr ?_)
    | ((with_reducible intro w3 e3); try have z3 := cutLe e3)
    | ((with_reducible intro h3); have h4 := Nat.le_of_lt h3; clear h4)))
  all_goals
    intro hx
    exact ⟨_, rfl, hx, _, ts, p, q, rfl, hp, hq, hD⟩
theorem DrawAreEntries_c (a : Option Addr) (n c : Nat) (bs : List Int) (w : World) (hr : Row w a 1 (bs.map encB)) (hn : bs.length = n) (hsm : n ≤ 65536) (hby : ∀ y ∈ bs, 0 ≤ y ∧ y ≤ 255) :
    Calls Tryz.prog 52 #[.slice a n c] w fun e w' => ∃ v, e = .returned v ∧ E0 w w' ∧ ∃ ts, RD w.heap.size w' v ts := by
  refine enterKF Non 9 Tryz.func52 rfl rfl rfl fun K hK => ?_
  repeat (any_goals (
    conv => whnf
    first
    | ((with_reducible refine RUNL.cur (fun _ => ?_) ?_); (focus kernel_rfl))
    | ((with_reducible intro w3 e3); have s3 := e3.size; have z3 := cutLe e3.ext; have hC := Cur.new e3 (by repeat (first | assumption | refine Row.e0 ?_ (by assumption))) hn hsm hby; have h0 := hC)
    | ((with_reducible intro w3 e3); have z3 := cutLe e3; (try replace hC := (by first | exact hC.e0 e3 | exact hC.past h0 e3 (fun j hj e => by simp only [bk] at e; omega))); (try replace hown := (by first | exact hown.e0 e3 | exact hown.ext e3 (by intro kk hkk h; have hh := (hown.block hkk).1; simp only [bk] at h; omega))); (try replace hown2 := (by first | exact hown2.e0 e3 | exact hown2.ext e3 (by intro kk hkk h; have hh := (hown2.block hkk).1; simp only [bk] at h; omega))))
    | ((with_reducible refine callM (g := 57) ?_ ?_); kernel_rfl; refine ⟨onB _, _, (by repeat (first | exact trivial | (refine ⟨?_, ?_⟩; (focus (show ¬ _ = _; dsimp only; omega))))), (by first | exact fun _ _ hj => hj | (intro j hj hjb; unfold onB at hjb; exfalso; omega)), entries_c _ _ _ _ hC (by omega), ?_⟩; intro r5 w5 e5 h5; have z5 := cutLe e5; obtain ⟨hr5, hC⟩ := h5; (try replace hown := hown.cur h0 (by omega) e5); (try replace hown2 := hown2.cur h0 (by omega) e5); (try replace oB := oB.cur h0 (by omega) e5); (try replace hE := hE.trans e5); obtain ⟨ts5, hl5, hf5, o5⟩ := hr5; obtain ⟨a5, c5, rfl, q5, p5⟩ := o5.top.rowx; have hown := o5)
    | ((with_reducible refine BIF.dec ?_ ?_) <;> intro _)
    | ((with_reducible refine BIF.s ?_ ?_) <;> intro _)
    | (with_reducible refine NEXTK.normal ?_)
    | (with_reducible refine NEXTK.ret ?_)
    | (with_reducible refine NEXTK.exit ?_)
    | (with_reducible refine SEQ.plain ?_)
    | (with_reducible refine hK _ _ ?_)
    | ((with_reducible refine RUNL.agg (fun _ => ?_) ?_); (focus kernel_rfl))
    | (with_reducible refine RUNL.run ?_)
    | ((with_reducible refine AR.ok ?_ ?_); exact ⟨by first | omega | (dsimp only; omega), by first | omega | (dsimp only; omega)⟩)
    | (with_reducible refine AR.wr ?_)
    | ((with_reducible intro w3 e3); try have z3 := cutLe e3)
    | ((with_reducible intro h3); have h4 := Nat.le_of_lt h3; clear h4)))
  all_goals
    intro hx
    exact ⟨_, rfl, hx, ts5, hl5, hf5, hown.lo (by omega)⟩
theorem DrawMergeAlike_c (a : Option Addr) (n c : Nat) (bs : List Int) (w : World) (hr : Row w a 1 (bs.map encB)) (hn : bs.length = n) (hsm : n ≤ 65536) (hby : ∀ y ∈ bs, 0 ≤ y ∧ y ≤ 255) :
    Calls Tryz.prog 24 #[.slice a n c] w fun e w' => ∃ v, e = .returned v ∧ E0 w w' ∧ ∃ ts, RD w.heap.size w' v ts := by
  refine enterK Non 5 Tryz.func24 rfl rfl rfl fun K hK => ?_
  repeat (any_goals (
    conv => whnf
    first
    | ((with_reducible refine callS (g := 52) ?_ ?_); kernel_rfl; refine ⟨_, DrawAreEntries_c _ _ _ bs _ (by repeat (first | assumption | refine Row.e0 ?_ (by assumption) | (refine Row.box (by assumption) (by assumption) (fun k hk h => notBk hk h (Nat.le_refl _)) ?_))) hn hsm hby, ?_⟩; intro r5 w5 e5 h5; have z5 := cutLe e5; obtain ⟨ts, hD⟩ := h5; obtain ⟨aD, cD, rfl, qD, pD⟩ := hD.2.2.top.rowx)
    | ((with_reducible refine BIF.dec ?_ ?_) <;> intro _)
    | ((with_reducible refine BIF.s ?_ ?_) <;> intro _)
    | (with_reducible refine NEXTK.normal ?_)
    | (with_reducible refine NEXTK.ret ?_)
    | (with_reducible refine NEXTK.exit ?_)
    | (with_reducible refine SEQ.plain ?_)
    | (with_reducible refine hK _ _ ?_)
    | ((with_reducible refine RUNL.agg (fun _ => ?_) ?_); (focus kernel_rfl))
    | (with_reducible refine RUNL.run ?_)
    | ((with_reducible refine AR.ok ?_ ?_); exact ⟨by first | omega | (dsimp only; omega), by first | omega | (dsimp only; omega)⟩)
    | (with_reducible refine AR.wr ?_)
    | ((with_reducible intro w3 e3); try have z3 := cutLe e3)
    | ((with_reducible intro h3); have h4 := Nat.le_of_lt h3; clear h4)))
  all_goals
    intro hx
    exact ⟨_, rfl, hx, ts, hD⟩

end Go.Proofs.YtpddilkonkkppaaGreatDoor

/- Entries copied. -/
import Derived.Test.YtpddilkonkkppaaGreatDoorRows
import Derived.Test.YtpddilkonkkppaaGreatDoorMerge5
namespace Go.Proofs.YtpddilkonkkppaaGreatDoor
open Go Go.X Go.Proofs Go.ChangeShapes Go.WideShapes Go.ChangeAt Go.RowKit
open Go.ChangeMaps (open_string shut_string)
set_option maxHeartbeats 1000000
set_option maxRecDepth 20000
set_option linter.unusedVariables false
set_option linter.unusedSimpArgs false
theorem own_ne {w : World} {lo lo' : Nat} {e e' : TypeId} {sz sz' : Nat} {v v' : Value} {ls ls' : List (List Value)} (h : Own w lo e sz v ls) (h' : Own w lo' e' sz' v' ls') (hne : e ≠ e') {b : Nat} (hb : v.ownBlock = some b) : v'.ownBlock ≠ some b := by
  obtain ⟨⟨-, h2⟩, -⟩ := h
  obtain ⟨⟨-, h2'⟩, -⟩ := h'
  rcases h2 with ⟨rfl, -⟩ | ⟨g, cap, cur, rfl, -, hh, -⟩
  · cases hb
  · rcases h2' with ⟨rfl, -⟩ | ⟨g', cap', cur', rfl, -, hh', -⟩
    · intro h; cases h
    · intro hb'
      simp only [Value.ownBlock] at hb hb'
      cases hb
      cases hb'
      rw [hh] at hh'
      injection hh' with hh'
      injection hh' with _ h3
      exact hne h3
theorem OwnT.mk' {w : World} {lo : Nat} {v : Value} {ts : List Tri} (h1 : Own w lo 46 6 v (ts.map encT)) (h2 : ∀ t ∈ ts, Own w lo 3 1 t.sl (t.1.fSeen.map encI))
    (h3 : ts.Pairwise fun t u => ∀ b, t.sl.ownBlock = some b → u.sl.ownBlock ≠ some b) : OwnT w lo v ts :=
  ⟨h1, h2, fun t ht b hb => own_ne h1 (h2 t ht) (by decide) hb, h3⟩
theorem CloneI_c (a : Option Addr) (n c : Nat) (xs : List Int) (w : World) (hr : Row w a 1 (xs.map encI)) (hn : xs.length = n) (hm : n ≤ 1048577) :
    Calls Tryz.prog 85 #[.slice a n c] w fun e w' => ∃ r, e = .returned r ∧ E0 w w' ∧ Own w' w.heap.size 3 1 r (xs.map encI) := by
  refine enterK Non 8 Tryz.func85 rfl rfl rfl fun K hK => ?_
  repeat (any_goals (
    conv => whnf
    first
    | ((with_reducible refine BIF.dec ?_ ?_) <;> intro _)
    | ((with_reducible refine BIF.s ?_ ?_) <;> intro _)
    | (with_reducible refine NEXTK.normal ?_)
    | (with_reducible refine NEXTK.ret ?_)
    | (with_reducible refine NEXTK.exit ?_)
    | (with_reducible refine SEQ.plain ?_)
    | (with_reducible refine hK _ _ ?_)
    | ((with_reducible refine RUNL.agg (fun _ => ?_) ?_); (focus kernel_rfl))
    | (with_reducible refine RUNL.run ?_)
    | ((with_reducible refine AR.ok ?_ ?_); exact ⟨by first | omega | (dsimp only; omega), by first | omega | (dsimp only; omega)⟩)
    | (with_reducible refine AR.wr ?_)
    | ((with_reducible intro w3 e3); try have z3 := cutLe e3)
    | ((with_reducible intro h3); have h4 := Nat.le_of_lt h3; clear h4)))
  · intro hx
    rename_i h
    have : xs = [] := by
      cases a with
      | none =>
        cases xs with
        | nil => rfl
        | cons x r => exact absurd (hr.isSome (by simp)) (by simp)
      | some p => simp at h
    subst this
    exact ⟨_, rfl, hx, Own.nil _ _ _ _⟩
  · refine bsS elemI [] rfl rfl (by simp) (by omega) (fun w1 e1 o1 => ?_)
    conv => whnf
    repeat (first | ((with_reducible refine NEXTK.normal ?_); conv => whnf) | ((with_reducible refine NEXTK.exit ?_); conv => whnf) | ((with_reducible refine NEXTK.ret ?_); conv => whnf) | ((with_reducible refine SEQ.plain ?_); conv => whnf) | ((with_reducible refine AR.ok ?_ ?_); exact ⟨by omega, by omega⟩; conv => whnf))
    refine apS elemI o1 (hr.e0 e1) (by simpa using hn) (by intro l hl; obtain ⟨x, -, rfl⟩ := List.mem_map.1 hl; rfl) ⟨by simp; omega, by simp; omega⟩ ⟨Nat.le_refl _, e1.size⟩ trivial (fun v2 w2 x2 o2 => ?_)
    replace o2 : Own w2 w.heap.size 3 1 v2 (xs.map encI) := by simpa using o2
    obtain ⟨b2, d2, rfl, q2, p2⟩ := o2.rowx
    repeat (any_goals (
      conv => whnf
      first
      | ((with_reducible refine BIF.dec ?_ ?_) <;> intro _)
      | ((with_reducible refine BIF.s ?_ ?_) <;> intro _)
      | (with_reducible refine NEXTK.normal ?_)
      | (with_reducible refine NEXTK.ret ?_)
      | (with_reducible refine NEXTK.exit ?_)
      | (with_reducible refine SEQ.plain ?_)
      | (with_reducible refine hK _ _ ?_)
      | ((with_reducible refine RUNL.agg (fun _ => ?_) ?_); (focus kernel_rfl))
      | (with_reducible refine RUNL.run ?_)
      | ((with_reducible refine AR.ok ?_ ?_); exact ⟨by first | omega | (dsimp only; omega), by first | omega | (dsimp only; omega)⟩)
      | (with_reducible refine AR.wr ?_)
      | ((with_reducible intro w3 e3); try have z3 := cutLe e3)
      | ((with_reducible intro h3); have h4 := Nat.le_of_lt h3; clear h4)))
    intro hx
    exact ⟨_, rfl, hx, o2⟩
theorem l1Own_c (a : Option Addr) (n c : Nat) (xs : List Int) (w : World) (hr : Row w a 1 (xs.map encI)) (hn : xs.length = n) (hm : n ≤ 1048577) :
    Calls Tryz.prog 65 #[.slice a n c] w fun e w' => ∃ r, e = .returned r ∧ E0 w w' ∧ Own w' w.heap.size 3 1 r (xs.map encI) := by
  refine enterK Non 6 Tryz.func65 rfl rfl rfl fun K hK => ?_
  conv => whnf
  repeat (first | ((with_reducible refine NEXTK.normal ?_); conv => whnf) | ((with_reducible refine NEXTK.exit ?_); conv => whnf) | ((with_reducible refine NEXTK.ret ?_); conv => whnf) | ((with_reducible refine SEQ.plain ?_); conv => whnf) | ((with_reducible refine AR.ok ?_ ?_); exact ⟨by omega, by omega⟩; conv => whnf))
  refine bsS elemI [] rfl rfl (by simp) (by omega) (fun w1 e1 o1 => ?_)
  conv => whnf
  repeat (first | ((with_reducible refine NEXTK.normal ?_); conv => whnf) | ((with_reducible refine NEXTK.exit ?_); conv => whnf) | ((with_reducible refine NEXTK.ret ?_); conv => whnf) | ((with_reducible refine SEQ.plain ?_); conv => whnf) | ((with_reducible refine AR.ok ?_ ?_); exact ⟨by omega, by omega⟩; conv => whnf))
  refine apS elemI o1 (hr.e0 e1) (by simpa using hn) (by intro l hl; obtain ⟨x, -, rfl⟩ := List.mem_map.1 hl; rfl) ⟨by simp; omega, by simp; omega⟩ ⟨Nat.le_refl _, e1.size⟩ trivial (fun v2 w2 x2 o2 => ?_)
  replace o2 : Own w2 w.heap.size 3 1 v2 (xs.map encI) := by simpa using o2
  obtain ⟨b2, d2, rfl, q2, p2⟩ := o2.rowx
  repeat (any_goals (
    conv => whnf
    first
    | ((with_reducible refine BIF.dec ?_ ?_) <;> intro _)
    | ((with_reducible refine BIF.s ?_ ?_) <;> intro _)
    | (with_reducible refine NEXTK.normal ?_)
    | (with_reducible refine NEXTK.ret ?_)
    | (with_reducible refine NEXTK.exit ?_)
    | (with_reducible refine SEQ.plain ?_)
    | (with_reducible refine hK _ _ ?_)
    | ((with_reducible refine RUNL.agg (fun _ => ?_) ?_); (focus kernel_rfl))
    | (with_reducible refine RUNL.run ?_)
    | ((with_reducible refine AR.ok ?_ ?_); exact ⟨by first | omega | (dsimp only; omega), by first | omega | (dsimp only; omega)⟩)
    | (with_reducible refine AR.wr ?_)
    | ((with_reducible intro w3 e3); try have z3 := cutLe e3)
    | ((with_reducible intro h3); have h4 := Nat.le_of_lt h3; clear h4)))
  intro hx
  exact ⟨_, rfl, hx, o2⟩
theorem copyEntries_c (a : Option Addr) (n c : Nat) (ts : List Tri) (w : World) (hr : Row w a 6 (ts.map encT)) (hs : SeenAt w ts) (hn : ts.length = n) (hm : n ≤ 1048577) (hz : ∀ t ∈ ts, t.1.fSeen.length ≤ 1048577) :
    Calls Tryz.prog 53 #[.slice a n c] w fun e w' => ∃ v, e = .returned v ∧ E0 w w' ∧ ∃ us : List Tri, us.map (·.1) = ts.map (·.1) ∧ OwnT w' w.heap.size v us := by
  refine enterK Non 22 Tryz.func53 rfl rfl rfl fun K hK => ?_
  conv => whnf
  repeat (first | ((with_reducible refine NEXTK.normal ?_); conv => whnf) | ((with_reducible refine NEXTK.exit ?_); conv => whnf) | ((with_reducible refine NEXTK.ret ?_); conv => whnf) | ((with_reducible refine SEQ.plain ?_); conv => whnf) | ((with_reducible refine AR.ok ?_ ?_); exact ⟨by omega, by omega⟩; conv => whnf))
  refine LOOP.mk (Nat × (Option Addr × Nat) × List Tri) (fun g => [(8, .v (.int .i64 g.1)), (3, .v (.slice g.2.1.1 g.2.2.length g.2.1.2))]) (fun g wr => g.1 ≤ n ∧ g.2.2.length = g.1 ∧ g.2.2.map (·.1) = (ts.take g.1).map (·.1) ∧
      Own wr w.heap.size 46 6 (.slice g.2.1.1 g.2.2.length g.2.1.2) (g.2.2.map encT) ∧
      (∀ t ∈ g.2.2, Own wr w.heap.size 3 1 t.sl (t.1.fSeen.map encI)) ∧ g.2.2.Pairwise fun t u => ∀ b, t.sl.ownBlock = some b → u.sl.ownBlock ≠ some b) (fun g => n - g.1) (0, (none, 0), []) rfl ⟨rfl, rfl, trivial⟩ ⟨Nat.zero_le _, rfl, rfl, Own.nil _ _ _ _, by simp, List.Pairwise.nil⟩ ?_
  rintro ⟨k, ⟨a1, c1⟩, us⟩ wr hX0 ⟨hk, hl, hf, ho, hsub, htwo⟩
  simp only at hk hl hf ho hsub htwo
  have hloww : w.heap.size ≤ wr.heap.size := cutLe hX0
  dsimp only
  conv => whnf
  repeat (first | ((with_reducible refine NEXTK.normal ?_); conv => whnf) | ((with_reducible refine NEXTK.exit ?_); conv => whnf) | ((with_reducible refine NEXTK.ret ?_); conv => whnf) | ((with_reducible refine SEQ.plain ?_); conv => whnf) | ((with_reducible refine AR.ok ?_ ?_); exact ⟨by omega, by omega⟩; conv => whnf))
  refine BIF.dec (fun hlt => ?_) (fun hlt => ?_)
  · have hlt' : k < ts.length := by omega
    have his := hr.isSome (by simp; omega)
    obtain ⟨t, ht⟩ : ∃ t, ts[k]? = some t := ⟨ts[k], by simp⟩
    have hmt := List.mem_of_getElem? ht
    have hrt := hs t hmt
    have hzt := hz t hmt
    have ho0 := ho
    have hold : ∀ t ∈ us, ∀ b, t.sl.ownBlock = some b → b < wr.heap.size := fun t ht b hb => ((hsub t ht).block hb).2
    have hE : Ext (fun k => k = wr.heap.size) wr wr := Ext.refl _ _
    repeat (any_goals (
      conv => whnf
      first
      | ((with_reducible refine OBL.mk ?_ (fun _ => ?_)); exact ⟨by first | omega | (dsimp only; omega), by first | omega | (dsimp only; omega), his⟩)
      | ((with_reducible refine ELD.at (k) hr ?_ ?_ ?_ (fun x' hx' => ?_)); exact mAddr_Non _; (first | rfl | omega); exact hlt'; obtain rfl : t = x' := by (rw [ht] at hx'; exact Option.some.inj hx'))
      | ((with_reducible intro w3 e3); have z3 := cutLe e3; (first | replace hE := hE.trans (show Ext (fun k => k = wr.heap.size) _ _ from e3) | replace hE := hE.trans (Ext.of0 e3)); (try replace o5 := o5.ext (show Ext (fun k => k = wr.heap.size) _ _ from e3) (fun b hb h => by have h : b = wr.heap.size := h; have := (o5.block hb).1; omega)); (try replace o5 := o5.e0 e3))
      | ((with_reducible refine callY (g := 85) ?_ ?_); kernel_rfl; refine ⟨_, fun hX => CloneI_c _ _ _ t.1.fSeen _ (hrt.ext hX (mAddr_Non _)) rfl (by omega), ?_⟩; intro r5 w5 e5 o5; have z6 := cutLe e5; replace hE := hE.trans (Ext.of0 e5); obtain ⟨b5, d5, rfl, q5, z5⟩ := o5.rowx)
      | ((with_reducible refine BIF.dec ?_ ?_) <;> intro _)
      | ((with_reducible refine BIF.s ?_ ?_) <;> intro _)
      | (with_reducible refine NEXTK.normal ?_)
      | (with_reducible refine NEXTK.ret ?_)
      | (with_reducible refine NEXTK.exit ?_)
      | (with_reducible refine SEQ.plain ?_)
      | (with_reducible refine hK _ _ ?_)
      | ((with_reducible refine RUNL.agg (fun _ => ?_) ?_); (focus kernel_rfl))
      | (with_reducible refine RUNL.run ?_)
      | ((with_reducible refine AR.ok ?_ ?_); exact ⟨by first | omega | (dsimp only; omega), by first | omega | (dsimp only; omega)⟩)
      | (with_reducible refine AR.wr ?_)
      | ((with_reducible intro w3 e3); try have z3 := cutLe e3)
      | ((with_reducible intro h3); have h4 := Nat.le_of_lt h3; clear h4)))
    all_goals
      repeat (any_goals (
        conv => whnf
        first
        | ((with_reducible refine bsS elemT [.agg (encT ((t.1, b5, d5) : Tri)).toArray] ?_ ?_ ?_ ?_ ?_); (focus rfl); (focus rfl); (focus (intro v hv; simp at hv; subst hv; rfl)); (focus omega); intro w9 e9 oB; have z9 := cutLe e9; (try replace oC := oC.e0 e9))
        | ((with_reducible refine BIF.dec ?_ ?_) <;> intro _)
        | ((with_reducible refine BIF.s ?_ ?_) <;> intro _)
        | (with_reducible refine NEXTK.normal ?_)
        | (with_reducible refine NEXTK.ret ?_)
        | (with_reducible refine NEXTK.exit ?_)
        | (with_reducible refine SEQ.plain ?_)
        | (with_reducible refine hK _ _ ?_)
        | ((with_reducible refine RUNL.agg (fun _ => ?_) ?_); (focus kernel_rfl))
        | (with_reducible refine RUNL.run ?_)
        | ((with_reducible refine AR.ok ?_ ?_); exact ⟨by first | omega | (dsimp only; omega), by first | omega | (dsimp only; omega)⟩)
        | (with_reducible refine AR.wr ?_)
        | ((with_reducible intro w3 e3); try have z3 := cutLe e3)
        | ((with_reducible intro h3); have h4 := Nat.le_of_lt h3; clear h4)))
      conv => whnf
      replace hE := hE.trans (Ext.of0 e9)
      replace o5 := o5.e0 e9
      replace ho := ho.ext hE (fun b hb h => by have h : b = wr.heap.size := h; have := (ho.block hb).2; omega)
      replace hsub := fun u hu => (hsub u hu).ext hE (fun b hb h => by have h : b = wr.heap.size := h; have := hold u hu b hb; omega)
      have hnot : ¬ (Value.slice a1 us.length c1).ownBlock = some wr.heap.size := fun h => by have := (ho0.block h).2; omega
      refine apS (ns := [encT ((t.1, b5, d5) : Tri)]) elemT ho oB.row.1 rfl (by intro l hl; simp at hl; subst hl; rfl) ⟨by simp; omega, by simp; omega⟩ ⟨Nat.le_refl _, by omega⟩ ⟨hnot, trivial⟩ (fun v2 w2 x2 o2 => ?_)
      replace o2 : Own w2 w.heap.size 46 6 v2 ((us ++ [((t.1, b5, d5) : Tri)]).map encT) := by simpa using o2
      obtain ⟨b2, d2, rfl, q2, p2⟩ := o2.rowx
      have hsub2 : ∀ u ∈ us, Own w2 w.heap.size 3 1 u.sl (u.1.fSeen.map encI) := fun u hu => (hsub u hu).ext x2 (fun b hb h => own_ne ho (hsub u hu) (by decide) h hb)
      have hnew : Own w2 w.heap.size 3 1 (Tri.sl (t.1, b5, d5)) (t.1.fSeen.map encI) := (o5.ext x2 (fun b hb h => own_ne ho o5 (by decide) h hb)).lo (by omega)
      repeat (any_goals (
        conv => whnf
        first
        | ((with_reducible refine BIF.dec ?_ ?_) <;> intro _)
        | ((with_reducible refine BIF.s ?_ ?_) <;> intro _)
        | (with_reducible refine NEXTK.normal ?_)
        | (with_reducible refine NEXTK.ret ?_)
        | (with_reducible refine NEXTK.exit ?_)
        | (with_reducible refine SEQ.plain ?_)
        | (with_reducible refine hK _ _ ?_)
        | ((with_reducible refine RUNL.agg (fun _ => ?_) ?_); (focus kernel_rfl))
        | (with_reducible refine RUNL.run ?_)
        | ((with_reducible refine AR.ok ?_ ?_); exact ⟨by first | omega | (dsimp only; omega), by first | omega | (dsimp only; omega)⟩)
        | (with_reducible refine AR.wr ?_)
        | ((with_reducible intro w3 e3); try have z3 := cutLe e3)
        | ((with_reducible intro h3); have h4 := Nat.le_of_lt h3; clear h4)))
      refine ⟨(k + 1, (b2, d2), us ++ [(t.1, b5, d5)]), rfl, ⟨rfl, rfl, trivial⟩, rfl, rfl, ⟨by simp only; omega, by simp [hl], ?_, o2, ?_, ?_⟩, by simp only; omega⟩
      · simp only
        rw [List.take_add_one, ht, List.map_append, List.map_append, hf]
        rfl
      · intro u hu
        rcases List.mem_append.1 hu with h | h
        · exact hsub2 u h
        · rw [List.mem_singleton.1 h]; exact hnew
      · refine pw_snoc htwo (fun u hu b hb hb2 => ?_)
        have h1 := hold u hu b hb
        have h2 := (o5.block hb2).1
        omega
  · repeat (any_goals (
      conv => whnf
      first
      | ((with_reducible refine BIF.dec ?_ ?_) <;> intro _)
      | ((with_reducible refine BIF.s ?_ ?_) <;> intro _)
      | (with_reducible refine NEXTK.normal ?_)
      | (with_reducible refine NEXTK.ret ?_)
      | (with_reducible refine NEXTK.exit ?_)
      | (with_reducible refine SEQ.plain ?_)
      | (with_reducible refine hK _ _ ?_)
      | ((with_reducible refine RUNL.agg (fun _ => ?_) ?_); (focus kernel_rfl))
      | (with_reducible refine RUNL.run ?_)
      | ((with_reducible refine AR.ok ?_ ?_); exact ⟨by first | omega | (dsimp only; omega), by first | omega | (dsimp only; omega)⟩)
      | (with_reducible refine AR.wr ?_)
      | ((with_reducible intro w3 e3); try have z3 := cutLe e3)
      | ((with_reducible intro h3); have h4 := Nat.le_of_lt h3; clear h4)))
    intro hx
    refine ⟨_, rfl, hx, us, ?_, (OwnT.mk' ho hsub htwo : OwnT _ _ (.slice a1 us.length c1) us)⟩
    rw [hf, List.take_of_length_le (by omega)]

theorem l25Own_c (a : Option Addr) (n c : Nat) (ts : List Tri) (w : World) (hr : Row w a 6 (ts.map encT)) (hs : SeenAt w ts) (hn : ts.length = n) (hm : n ≤ 1048577) (hz : ∀ t ∈ ts, t.1.fSeen.length ≤ 1048577) :
    Calls Tryz.prog 55 #[.slice a n c] w fun e w' => ∃ v, e = .returned v ∧ E0 w w' ∧ ∃ us : List Tri, us.map (·.1) = ts.map (·.1) ∧ OwnT w' w.heap.size v us := by
  refine enterK Non 26 Tryz.func55 rfl rfl rfl fun K hK => ?_
  conv => whnf
  repeat (first | ((with_reducible refine NEXTK.normal ?_); conv => whnf) | ((with_reducible refine NEXTK.exit ?_); conv => whnf) | ((with_reducible refine NEXTK.ret ?_); conv => whnf) | ((with_reducible refine SEQ.plain ?_); conv => whnf) | ((with_reducible refine AR.ok ?_ ?_); exact ⟨by omega, by omega⟩; conv => whnf))
  refine bsS elemT [] rfl rfl (by simp) (by omega) (fun w1 e1 o1 => ?_)
  conv => whnf
  repeat (first | ((with_reducible refine NEXTK.normal ?_); conv => whnf) | ((with_reducible refine NEXTK.exit ?_); conv => whnf) | ((with_reducible refine NEXTK.ret ?_); conv => whnf) | ((with_reducible refine SEQ.plain ?_); conv => whnf) | ((with_reducible refine AR.ok ?_ ?_); exact ⟨by omega, by omega⟩; conv => whnf))
  refine LOOP.mk (Nat × (Option Addr × Nat) × List Tri) (fun g => [(4, .v (.int .i64 g.1)), (3, .v (.slice g.2.1.1 g.2.2.length g.2.1.2))]) (fun g wr => g.1 ≤ n ∧ g.2.2.length = g.1 ∧ g.2.2.map (·.1) = (ts.take g.1).map (·.1) ∧
      Own wr w.heap.size 46 6 (.slice g.2.1.1 g.2.2.length g.2.1.2) (g.2.2.map encT) ∧
      (∀ t ∈ g.2.2, Own wr w.heap.size 3 1 t.sl (t.1.fSeen.map encI)) ∧ g.2.2.Pairwise fun t u => ∀ b, t.sl.ownBlock = some b → u.sl.ownBlock ≠ some b) (fun g => n - g.1) (0, (some ⟨w.heap.size, 0, none⟩, 0), []) rfl ⟨rfl, rfl, trivial⟩ ⟨Nat.zero_le _, rfl, rfl, o1, by simp, List.Pairwise.nil⟩ ?_
  rintro ⟨k, ⟨a1, c1⟩, us⟩ wr hX0 ⟨hk, hl, hf, ho, hsub, htwo⟩
  simp only at hk hl hf ho hsub htwo
  have hloww : w.heap.size ≤ wr.heap.size := cutLe hX0
  dsimp only
  conv => whnf
  repeat (first | ((with_reducible refine NEXTK.normal ?_); conv => whnf) | ((with_reducible refine NEXTK.exit ?_); conv => whnf) | ((with_reducible refine NEXTK.ret ?_); conv => whnf) | ((with_reducible refine SEQ.plain ?_); conv => whnf) | ((with_reducible refine AR.ok ?_ ?_); exact ⟨by omega, by omega⟩; conv => whnf))
  refine BIF.dec (fun hlt => ?_) (fun hlt => ?_)
  · have hlt' : k < ts.length := by omega
    have his := hr.isSome (by simp; omega)
    obtain ⟨t, ht⟩ : ∃ t, ts[k]? = some t := ⟨ts[k], by simp⟩
    have hmt := List.mem_of_getElem? ht
    have hrt := hs t hmt
    have hzt := hz t hmt
    have ho0 := ho
    have hold : ∀ t ∈ us, ∀ b, t.sl.ownBlock = some b → b < wr.heap.size := fun t ht b hb => ((hsub t ht).block hb).2
    have hE : Ext (fun k => k = wr.heap.size) wr wr := Ext.refl _ _
    repeat (any_goals (
      conv => whnf
      first
      | ((with_reducible refine OBL.mk ?_ (fun _ => ?_)); exact ⟨by first | omega | (dsimp only; omega), by first | omega | (dsimp only; omega), his⟩)
      | ((with_reducible refine ELD.at (k) hr ?_ ?_ ?_ (fun x' hx' => ?_)); exact mAddr_Non _; (first | rfl | omega); exact hlt'; obtain rfl : t = x' := by (rw [ht] at hx'; exact Option.some.inj hx'))
      | ((with_reducible intro w3 e3); have z3 := cutLe e3; (first | replace hE := hE.trans (show Ext (fun k => k = wr.heap.size) _ _ from e3) | replace hE := hE.trans (Ext.of0 e3)); (try replace o5 := o5.ext (show Ext (fun k => k = wr.heap.size) _ _ from e3) (fun b hb h => by have h : b = wr.heap.size := h; have := (o5.block hb).1; omega)); (try replace o5 := o5.e0 e3))
      | ((with_reducible refine callY (g := 65) ?_ ?_); kernel_rfl; refine ⟨_, fun hX => l1Own_c _ _ _ t.1.fSeen _ (hrt.ext hX (mAddr_Non _)) rfl (by omega), ?_⟩; intro r5 w5 e5 o5; have z6 := cutLe e5; replace hE := hE.trans (Ext.of0 e5); obtain ⟨b5, d5, rfl, q5, z5⟩ := o5.rowx)
      | ((with_reducible refine BIF.dec ?_ ?_) <;> intro _)
      | ((with_reducible refine BIF.s ?_ ?_) <;> intro _)
      | (with_reducible refine NEXTK.normal ?_)
      | (with_reducible refine NEXTK.ret ?_)
      | (with_reducible refine NEXTK.exit ?_)
      | (with_reducible refine SEQ.plain ?_)
      | (with_reducible refine hK _ _ ?_)
      | ((with_reducible refine RUNL.agg (fun _ => ?_) ?_); (focus kernel_rfl))
      | (with_reducible refine RUNL.run ?_)
      | ((with_reducible refine AR.ok ?_ ?_); exact ⟨by first | omega | (dsimp only; omega), by first | omega | (dsimp only; omega)⟩)
      | (with_reducible refine AR.wr ?_)
      | ((with_reducible intro w3 e3); try have z3 := cutLe e3)
      | ((with_reducible intro h3); have h4 := Nat.le_of_lt h3; clear h4)))
    all_goals
      repeat (any_goals (
        conv => whnf
        first
        | ((with_reducible refine bsS elemT [.agg (encT ((t.1, b5, d5) : Tri)).toArray] ?_ ?_ ?_ ?_ ?_); (focus rfl); (focus rfl); (focus (intro v hv; simp at hv; subst hv; rfl)); (focus omega); intro w9 e9 oB; have z9 := cutLe e9; (try replace oC := oC.e0 e9))
        | ((with_reducible refine BIF.dec ?_ ?_) <;> intro _)
        | ((with_reducible refine BIF.s ?_ ?_) <;> intro _)
        | (with_reducible refine NEXTK.normal ?_)
        | (with_reducible refine NEXTK.ret ?_)
        | (with_reducible refine NEXTK.exit ?_)
        | (with_reducible refine SEQ.plain ?_)
        | (with_reducible refine hK _ _ ?_)
        | ((with_reducible refine RUNL.agg (fun _ => ?_) ?_); (focus kernel_rfl))
        | (with_reducible refine RUNL.run ?_)
        | ((with_reducible refine AR.ok ?_ ?_); exact ⟨by first | omega | (dsimp only; omega), by first | omega | (dsimp only; omega)⟩)
        | (with_reducible refine AR.wr ?_)
        | ((with_reducible intro w3 e3); try have z3 := cutLe e3)
        | ((with_reducible intro h3); have h4 := Nat.le_of_lt h3; clear h4)))
      conv => whnf
      replace hE := hE.trans (Ext.of0 e9)
      replace o5 := o5.e0 e9
      replace ho := ho.ext hE (fun b hb h => by have h : b = wr.heap.size := h; have := (ho.block hb).2; omega)
      replace hsub := fun u hu => (hsub u hu).ext hE (fun b hb h => by have h : b = wr.heap.size := h; have := hold u hu b hb; omega)
      have hnot : ¬ (Value.slice a1 us.length c1).ownBlock = some wr.heap.size := fun h => by have := (ho0.block h).2; omega
      refine apS (ns := [encT ((t.1, b5, d5) : Tri)]) elemT ho oB.row.1 rfl (by intro l hl; simp at hl; subst hl; rfl) ⟨by simp; omega, by simp; omega⟩ ⟨Nat.le_refl _, by omega⟩ ⟨hnot, trivial⟩ (fun v2 w2 x2 o2 => ?_)
      replace o2 : Own w2 w.heap.size 46 6 v2 ((us ++ [((t.1, b5, d5) : Tri)]).map encT) := by simpa using o2
      obtain ⟨b2, d2, rfl, q2, p2⟩ := o2.rowx
      have hsub2 : ∀ u ∈ us, Own w2 w.heap.size 3 1 u.sl (u.1.fSeen.map encI) := fun u hu => (hsub u hu).ext x2 (fun b hb h => own_ne ho (hsub u hu) (by decide) h hb)
      have hnew : Own w2 w.heap.size 3 1 (Tri.sl (t.1, b5, d5)) (t.1.fSeen.map encI) := (o5.ext x2 (fun b hb h => own_ne ho o5 (by decide) h hb)).lo (by omega)
      repeat (any_goals (
        conv => whnf
        first
        | ((with_reducible refine BIF.dec ?_ ?_) <;> intro _)
        | ((with_reducible refine BIF.s ?_ ?_) <;> intro _)
        | (with_reducible refine NEXTK.normal ?_)
        | (with_reducible refine NEXTK.ret ?_)
        | (with_reducible refine NEXTK.exit ?_)
        | (with_reducible refine SEQ.plain ?_)
        | (with_reducible refine hK _ _ ?_)
        | ((with_reducible refine RUNL.agg (fun _ => ?_) ?_); (focus kernel_rfl))
        | (with_reducible refine RUNL.run ?_)
        | ((with_reducible refine AR.ok ?_ ?_); exact ⟨by first | omega | (dsimp only; omega), by first | omega | (dsimp only; omega)⟩)
        | (with_reducible refine AR.wr ?_)
        | ((with_reducible intro w3 e3); try have z3 := cutLe e3)
        | ((with_reducible intro h3); have h4 := Nat.le_of_lt h3; clear h4)))
      refine ⟨(k + 1, (b2, d2), us ++ [(t.1, b5, d5)]), rfl, ⟨rfl, rfl, trivial⟩, rfl, rfl, ⟨by simp only; omega, by simp [hl], ?_, o2, ?_, ?_⟩, by simp only; omega⟩
      · simp only
        rw [List.take_add_one, ht, List.map_append, List.map_append, hf]
        rfl
      · intro u hu
        rcases List.mem_append.1 hu with h | h
        · exact hsub2 u h
        · rw [List.mem_singleton.1 h]; exact hnew
      · refine pw_snoc htwo (fun u hu b hb hb2 => ?_)
        have h1 := hold u hu b hb
        have h2 := (o5.block hb2).1
        omega
  · repeat (any_goals (
      conv => whnf
      first
      | ((with_reducible refine BIF.dec ?_ ?_) <;> intro _)
      | ((with_reducible refine BIF.s ?_ ?_) <;> intro _)
      | (with_reducible refine NEXTK.normal ?_)
      | (with_reducible refine NEXTK.ret ?_)
      | (with_reducible refine NEXTK.exit ?_)
      | (with_reducible refine SEQ.plain ?_)
      | (with_reducible refine hK _ _ ?_)
      | ((with_reducible refine RUNL.agg (fun _ => ?_) ?_); (focus kernel_rfl))
      | (with_reducible refine RUNL.run ?_)
      | ((with_reducible refine AR.ok ?_ ?_); exact ⟨by first | omega | (dsimp only; omega), by first | omega | (dsimp only; omega)⟩)
      | (with_reducible refine AR.wr ?_)
      | ((with_reducible intro w3 e3); try have z3 := cutLe e3)
      | ((with_reducible intro h3); have h4 := Nat.le_of_lt h3; clear h4)))
    intro hx
    refine ⟨_, rfl, hx, us, ?_, (OwnT.mk' ho hsub htwo : OwnT _ _ (.slice a1 us.length c1) us)⟩
    rw [hf, List.take_of_length_le (by omega)]

end Go.Proofs.YtpddilkonkkppaaGreatDoor

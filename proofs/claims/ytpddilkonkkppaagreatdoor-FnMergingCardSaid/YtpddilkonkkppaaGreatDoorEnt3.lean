/- Entries marked and looked at again. -/
import Derived.Test.YtpddilkonkkppaaGreatDoorRows
import Derived.Test.YtpddilkonkkppaaGreatDoorEnt
namespace Go.Proofs.YtpddilkonkkppaaGreatDoor
open Go Go.X Go.Proofs Go.ChangeShapes Go.WideShapes Go.ChangeAt Go.RowKit
open Go.ChangeMaps (open_string shut_string)
set_option maxHeartbeats 1000000
set_option maxRecDepth 20000
set_option linter.unusedVariables false
set_option linter.unusedSimpArgs false
theorem sl_ob {t u : Tri} (h : t.2 = u.2) : t.sl.ownBlock = u.sl.ownBlock := by
  obtain ⟨x, a, c⟩ := t
  obtain ⟨y, b, d⟩ := u
  cases h
  cases a <;> rfl
theorem tri_get {us : List Tri} {j : Nat} {t : Tri} (h1 : (us.map (·.1))[j]? = some t.1) (h2 : (us.map (·.2))[j]? = some t.2) : us[j]? = some t := by
  rw [List.getElem?_map] at h1 h2
  cases hu : us[j]? with
  | none => rw [hu] at h1; cases h1
  | some u =>
    rw [hu] at h1 h2
    simp only [Option.map_some, Option.some.injEq] at h1 h2
    rw [Prod.ext h1 h2]
theorem set_at {α : Type} {us : List α} {x y : α} {vs : List α} {j : Nat} (h : us.length = j) : (us ++ x :: vs).set j y = us ++ y :: vs := by
  subst h
  rw [List.set_append_right _ _ (Nat.le_refl _)]
  simp
theorem drop_at {α : Type} {xs : List α} {j : Nat} {x : α} (h : xs[j]? = some x) : xs.drop j = x :: xs.drop (j + 1) := by
  obtain ⟨h1, h2⟩ := List.getElem?_eq_some_iff.1 h
  rw [List.drop_eq_getElem_cons h1, h2]
theorem markEntryS_c (lo : Nat) (a : Option Addr) (n cp : Nat) (ts : List Tri) (k : Int) (w : World) (ho : OwnT w lo (.slice a n cp) ts) (hn : ts.length = n) (hm : n ≤ 4194304) (hz : lens ts ≤ 4194304) (hk : 1 ≤ k ∧ k ≤ 1000000000) :
    Calls Tryz.prog 11 #[.slice a n cp, .int .i64 k] w fun e w' => ∃ r, e = .returned r ∧ Ext (blksT (.slice a n cp) ts) w w' ∧ r = .int .i64 (nxEs k (ts.map (·.1))) ∧ ∃ us : List Tri, us.map (·.1) = mkEs k (ts.map (·.1)) ∧ us.map (·.2) = ts.map (·.2) ∧ OwnT w' lo (.slice a n cp) us := by
  refine enterK (blksT (.slice a n cp) ts) 57 Tryz.func11 rfl rfl rfl fun K hK => ?_
  conv => whnf
  repeat (first | ((with_reducible refine NEXTK.normal ?_); conv => whnf) | ((with_reducible refine NEXTK.exit ?_); conv => whnf) | ((with_reducible refine NEXTK.ret ?_); conv => whnf) | ((with_reducible refine SEQ.plain ?_); conv => whnf) | ((with_reducible refine AR.ok ?_ ?_); exact ⟨by omega, by omega⟩; conv => whnf))
  refine LOOP.mk (Nat × List Tri) (fun g => [(5, .v (.int .i64 g.1)), (1, .v (.int .i64 (nxEs k ((ts.take g.1).map (·.1)))))]) (fun g wr => g.1 ≤ n ∧ g.2.map (·.2) = ts.map (·.2) ∧ g.2.map (·.1) = mkEs k ((ts.take g.1).map (·.1)) ++ (ts.drop g.1).map (·.1) ∧ OwnT wr lo (.slice a n cp) g.2) (fun g => n - g.1) (0, ts) rfl ⟨rfl, by simp [lk, Nat.beq, nxEs], trivial⟩ ⟨Nat.zero_le _, rfl, by simp [mkEs], ho⟩ ?_
  clear ho
  rintro ⟨j, us⟩ wr - ⟨hj, h2, h1, hw⟩
  simp only at hj h1 h2 hw
  conv => whnf
  repeat (first | ((with_reducible refine NEXTK.normal ?_); conv => whnf) | ((with_reducible refine NEXTK.exit ?_); conv => whnf) | ((with_reducible refine NEXTK.ret ?_); conv => whnf) | ((with_reducible refine SEQ.plain ?_); conv => whnf) | ((with_reducible refine AR.ok ?_ ?_); exact ⟨by omega, by omega⟩; conv => whnf))
  refine BIF.dec (fun hlt => ?_) (fun hlt => ?_)
  · have hlt' : j < ts.length := by simp only at hlt; omega
    obtain ⟨t, ht⟩ : ∃ t, ts[j]? = some t := ⟨ts[j], by simp [hlt']⟩
    have hmem := List.mem_of_getElem? ht
    have hul : us.length = ts.length := by have := congrArg List.length h2; rw [List.length_map, List.length_map] at this; exact this
    have hpl : (mkEs k ((ts.take j).map (·.1))).length = j := by rw [mkEs_len, List.length_map, List.length_take]; omega
    have hdr : (ts.drop j).map (·.1) = t.1 :: (ts.drop (j + 1)).map (·.1) := by rw [drop_at ht]; rfl
    have hu : us[j]? = some t := tri_get (by rw [h1, hdr, List.getElem?_append_right (by omega), hpl]; simp) (by rw [h2, List.getElem?_map, ht]; rfl)
    have hkq := nxEs_eq k (ts.take j)
    rw [List.length_take, Nat.min_eq_left (by omega)] at hkq
    have hlp := lens_pre ts j
    have hlm := lens_mem hmem
    obtain ⟨q, hq⟩ : ∃ q, nxEs k ((ts.take j).map (·.1)) = q := ⟨_, rfl⟩
    rw [hq] at hkq ⊢
    have his := hw.top.row.1.isSome (by simp; omega)
    have hT := hw.top
    have g0 : (us.map encT)[j]? = some [.int .i64 t.1.fId, .string t.1.fTitle, .string t.1.fPlace, .int .i64 t.1.fYear, .int .i64 t.1.fCount, t.sl] := by rw [List.getElem?_map, hu]; rfl
    have hE : Ext (fun b => (Value.slice a n cp).ownBlock = some b) wr wr := Ext.refl _ _
    repeat (any_goals (
      conv => whnf
      first
      | ((with_reducible refine OBL.mk ?_ (fun _ => ?_)); exact ⟨by omega, by omega, his⟩)
      | ((with_reducible refine BIF.dec ?_ ?_) <;> intro _)
      | ((with_reducible refine BIF.s ?_ ?_) <;> intro _)
      | (with_reducible refine NEXTK.normal ?_)
      | (with_reducible refine NEXTK.ret ?_)
      | (with_reducible refine NEXTK.exit ?_)
      | (with_reducible refine SEQ.plain ?_)
      | (with_reducible refine hK _ _ ?_)
      | ((with_reducible refine RUNL.agg (fun _ => ?_) ?_); (focus kernel_rfl))
      | (with_reducible refine RUNL.run ?_)
      | ((with_reducible refine AR.ok ?_ ?_); exact ⟨by first | omega | (dsimp only; omega), by first | omega | (dsimp only; omega)⟩)
      | (with_reducible refine AR.wr ?_)
      | ((with_reducible intro w3 e3); try have z3 := cutLe e3)
      | ((with_reducible intro h3); have h4 := Nat.le_of_lt h3; clear h4)))
    conv => whnf
    refine stM (i := j) hT rfl rfl rfl j rfl g0 (by decide) (fun _ h => .inl h) trivial (fun v0 f0 o0 => ?_)
    replace hE := hE.trans f0
    clear hT
    have hT : Own v0 lo 46 6 (.slice a n cp) (List.set _ j [.int .i64 q, .string t.1.fTitle, .string t.1.fPlace, .int .i64 t.1.fYear, .int .i64 t.1.fCount, t.sl]) := o0
    clear o0
    have g1 := set_get (d := [.int .i64 q, .string t.1.fTitle, .string t.1.fPlace, .int .i64 t.1.fYear, .int .i64 t.1.fCount, t.sl]) g0
    repeat (any_goals (
      conv => whnf
      first
      | ((with_reducible refine callF (g := 41) ?_ ?_); kernel_rfl; refine ⟨_, markText_c _ _ (by omega), ?_⟩; intro w4 e4; replace hT := hT.e0 e4; replace hE := hE.trans (Ext.of0 e4))
      | ((with_reducible refine OBL.mk ?_ (fun _ => ?_)); exact ⟨by omega, by omega, his⟩)
      | ((with_reducible refine BIF.dec ?_ ?_) <;> intro _)
      | ((with_reducible refine BIF.s ?_ ?_) <;> intro _)
      | (with_reducible refine NEXTK.normal ?_)
      | (with_reducible refine NEXTK.ret ?_)
      | (with_reducible refine NEXTK.exit ?_)
      | (with_reducible refine SEQ.plain ?_)
      | (with_reducible refine hK _ _ ?_)
      | ((with_reducible refine RUNL.agg (fun _ => ?_) ?_); (focus kernel_rfl))
      | (with_reducible refine RUNL.run ?_)
      | ((with_reducible refine AR.ok ?_ ?_); exact ⟨by first | omega | (dsimp only; omega), by first | omega | (dsimp only; omega)⟩)
      | (with_reducible refine AR.wr ?_)
      | ((with_reducible intro w3 e3); try have z3 := cutLe e3)
      | ((with_reducible intro h3); have h4 := Nat.le_of_lt h3; clear h4)))
    conv => whnf
    refine stM (i := j) hT rfl rfl rfl j rfl g1 (by decide) (fun _ h => .inl h) trivial (fun v1 f1 o1 => ?_)
    replace hE := hE.trans f1
    clear hT
    have hT : Own v1 lo 46 6 (.slice a n cp) (List.set _ j [.int .i64 q, .string (mtS (q + 1)), .string t.1.fPlace, .int .i64 t.1.fYear, .int .i64 t.1.fCount, t.sl]) := o1
    clear o1
    have g2 := set_get (d := [.int .i64 q, .string (mtS (q + 1)), .string t.1.fPlace, .int .i64 t.1.fYear, .int .i64 t.1.fCount, t.sl]) g1
    repeat (any_goals (
      conv => whnf
      first
      | ((with_reducible refine callF (g := 41) ?_ ?_); kernel_rfl; refine ⟨_, markText_c _ _ (by omega), ?_⟩; intro w4 e4; replace hT := hT.e0 e4; replace hE := hE.trans (Ext.of0 e4))
      | ((with_reducible refine OBL.mk ?_ (fun _ => ?_)); exact ⟨by omega, by omega, his⟩)
      | ((with_reducible refine BIF.dec ?_ ?_) <;> intro _)
      | ((with_reducible refine BIF.s ?_ ?_) <;> intro _)
      | (with_reducible refine NEXTK.normal ?_)
      | (with_reducible refine NEXTK.ret ?_)
      | (with_reducible refine NEXTK.exit ?_)
      | (with_reducible refine SEQ.plain ?_)
      | (with_reducible refine hK _ _ ?_)
      | ((with_reducible refine RUNL.agg (fun _ => ?_) ?_); (focus kernel_rfl))
      | (with_reducible refine RUNL.run ?_)
      | ((with_reducible refine AR.ok ?_ ?_); exact ⟨by first | omega | (dsimp only; omega), by first | omega | (dsimp only; omega)⟩)
      | (with_reducible refine AR.wr ?_)
      | ((with_reducible intro w3 e3); try have z3 := cutLe e3)
      | ((with_reducible intro h3); have h4 := Nat.le_of_lt h3; clear h4)))
    conv => whnf
    refine stM (i := j) hT rfl rfl rfl j rfl g2 (by decide) (fun _ h => .inl h) trivial (fun v2 f2 o2 => ?_)
    replace hE := hE.trans f2
    clear hT
    have hT : Own v2 lo 46 6 (.slice a n cp) (List.set _ j [.int .i64 q, .string (mtS (q + 1)), .string (mtS (q + 1 + 1)), .int .i64 t.1.fYear, .int .i64 t.1.fCount, t.sl]) := o2
    clear o2
    have g3 := set_get (d := [.int .i64 q, .string (mtS (q + 1)), .string (mtS (q + 1 + 1)), .int .i64 t.1.fYear, .int .i64 t.1.fCount, t.sl]) g2
    repeat (any_goals (
      conv => whnf
      first
      | ((with_reducible refine OBL.mk ?_ (fun _ => ?_)); exact ⟨by omega, by omega, his⟩)
      | ((with_reducible refine BIF.dec ?_ ?_) <;> intro _)
      | ((with_reducible refine BIF.s ?_ ?_) <;> intro _)
      | (with_reducible refine NEXTK.normal ?_)
      | (with_reducible refine NEXTK.ret ?_)
      | (with_reducible refine NEXTK.exit ?_)
      | (with_reducible refine SEQ.plain ?_)
      | (with_reducible refine hK _ _ ?_)
      | ((with_reducible refine RUNL.agg (fun _ => ?_) ?_); (focus kernel_rfl))
      | (with_reducible refine RUNL.run ?_)
      | ((with_reducible refine AR.ok ?_ ?_); exact ⟨by first | omega | (dsimp only; omega), by first | omega | (dsimp only; omega)⟩)
      | (with_reducible refine AR.wr ?_)
      | ((with_reducible intro w3 e3); try have z3 := cutLe e3)
      | ((with_reducible intro h3); have h4 := Nat.le_of_lt h3; clear h4)))
    conv => whnf
    refine stM (i := j) hT rfl rfl rfl j rfl g3 (by decide) (fun _ h => .inl h) trivial (fun v3 f3 o3 => ?_)
    replace hE := hE.trans f3
    clear hT
    have hT : Own v3 lo 46 6 (.slice a n cp) (List.set _ j [.int .i64 q, .string (mtS (q + 1)), .string (mtS (q + 1 + 1)), .int .i64 (q + 1 + 1 + 1), .int .i64 t.1.fCount, t.sl]) := o3
    clear o3
    have g4 := set_get (d := [.int .i64 q, .string (mtS (q + 1)), .string (mtS (q + 1 + 1)), .int .i64 (q + 1 + 1 + 1), .int .i64 t.1.fCount, t.sl]) g3
    repeat (any_goals (
      conv => whnf
      first
      | ((with_reducible refine OBL.mk ?_ (fun _ => ?_)); exact ⟨by omega, by omega, his⟩)
      | ((with_reducible refine BIF.dec ?_ ?_) <;> intro _)
      | ((with_reducible refine BIF.s ?_ ?_) <;> intro _)
      | (with_reducible refine NEXTK.normal ?_)
      | (with_reducible refine NEXTK.ret ?_)
      | (with_reducible refine NEXTK.exit ?_)
      | (with_reducible refine SEQ.plain ?_)
      | (with_reducible refine hK _ _ ?_)
      | ((with_reducible refine RUNL.agg (fun _ => ?_) ?_); (focus kernel_rfl))
      | (with_reducible refine RUNL.run ?_)
      | ((with_reducible refine AR.ok ?_ ?_); exact ⟨by first | omega | (dsimp only; omega), by first | omega | (dsimp only; omega)⟩)
      | (with_reducible refine AR.wr ?_)
      | ((with_reducible intro w3 e3); try have z3 := cutLe e3)
      | ((with_reducible intro h3); have h4 := Nat.le_of_lt h3; clear h4)))
    conv => whnf
    refine stM (i := j) hT rfl rfl rfl j rfl g4 (by decide) (fun _ h => .inl h) trivial (fun v4 f4 o4 => ?_)
    replace hE := hE.trans f4
    clear hT
    have hT : Own v4 lo 46 6 (.slice a n cp) (List.set _ j [.int .i64 q, .string (mtS (q + 1)), .string (mtS (q + 1 + 1)), .int .i64 (q + 1 + 1 + 1), .int .i64 (q + 1 + 1 + 1 + 1), t.sl]) := o4
    clear o4
    have g5 := set_get (d := [.int .i64 q, .string (mtS (q + 1)), .string (mtS (q + 1 + 1)), .int .i64 (q + 1 + 1 + 1), .int .i64 (q + 1 + 1 + 1 + 1), t.sl]) g4
    simp only [List.set_set] at hT
    obtain ⟨t5, ht5⟩ : ∃ t5 : Tri, t5 = (⟨q, mtS (q + 1), mtS (q + 1 + 1), q + 1 + 1 + 1, q + 1 + 1 + 1 + 1, t.1.fSeen⟩, t.2) := ⟨_, rfl⟩
    have hE2 : Ext (fun b => (Value.slice a n cp).ownBlock = some b ∨ t.sl.ownBlock = some b) wr v4 := hE.mono (fun _ _ h => .inl h)
    have hmu := List.mem_of_getElem? hu
    have hsub := (hw.sub t hmu).ext hE (fun b hb hb2 => hw.off t hmu b hb2 hb)
    have hT5 : Own v4 lo 46 6 (.slice a n cp) ((us.map encT).set j (encT t5)) := by rw [ht5]; exact hT
    have hO5 := hw.set hu (u := t5) (by rw [ht5]) hT5 (by rw [ht5]; exact hsub) hE2
    have hu5 : (us.set j t5)[j]? = some t5 := by rw [List.getElem?_set]; simp [(List.getElem?_eq_some_iff.1 hu).1]
    repeat (any_goals (
      conv => whnf
      first
      | ((with_reducible refine OBL.mk ?_ (fun _ => ?_)); exact ⟨by omega, by omega, his⟩)
      | ((with_reducible refine ELD.atNow (enc := encT) (xs := us.set j t5) j hO5.top.row.1 ?_ ?_ (fun x' hx' => ?_)); (first | rfl | omega); (rw [List.length_set]; omega); obtain rfl : t5 = x' := (by rw [hu5] at hx'; exact Option.some.inj hx'))
      | ((with_reducible refine BIF.dec ?_ ?_) <;> intro _)
      | ((with_reducible refine BIF.s ?_ ?_) <;> intro _)
      | (with_reducible refine NEXTK.normal ?_)
      | (with_reducible refine NEXTK.ret ?_)
      | (with_reducible refine NEXTK.exit ?_)
      | (with_reducible refine SEQ.plain ?_)
      | (with_reducible refine hK _ _ ?_)
      | ((with_reducible refine RUNL.agg (fun _ => ?_) ?_); (focus kernel_rfl))
      | (with_reducible refine RUNL.run ?_)
      | ((with_reducible refine AR.ok ?_ ?_); exact ⟨by first | omega | (dsimp only; omega), by first | omega | (dsimp only; omega)⟩)
      | (with_reducible refine AR.wr ?_)
      | ((with_reducible intro w3 e3); try have z3 := cutLe e3)
      | ((with_reducible intro h3); have h4 := Nat.le_of_lt h3; clear h4)))
    conv => whnf
    have hm5 : t5 ∈ us.set j t5 := List.mem_of_getElem? hu5
    have hl5 : t5.1.fSeen.length = t.1.fSeen.length := by rw [ht5]
    have hb5 : t5.sl.ownBlock = t.sl.ownBlock := by rw [ht5]
    refine callM (g := 42) (by kernel_rfl) ⟨_, _, trivial, fun b _ h => .inr ⟨t, hmem, hb5 ▸ h⟩, markIntS_c lo _ _ _ t5.1.fSeen _ _ (hO5.sub t5 hm5) rfl (by omega) (by omega), fun r w6 e6 h => ?_⟩
    obtain ⟨rfl, o6⟩ := h
    obtain ⟨t6, ht6⟩ : ∃ t6 : Tri, t6 = (mkE q t.1, t.2) := ⟨_, rfl⟩
    have h65 : encT t6 = encT t5 := by rw [ht6, ht5]; simp [encT, mkE]
    have hT6 : Own w6 lo 46 6 (.slice a n cp) (((us.set j t5).map encT).set j (encT t6)) := by
      rw [List.map_set, List.set_set, h65]
      exact hT5.ext e6 (fun b hb hb2 => hO5.off t5 hm5 b hb hb2)
    have hO6 := hO5.set hu5 (u := t6) (by rw [ht6, ht5]; exact sl_ob rfl) hT6 (by rw [ht6]; show Own w6 lo 3 1 (.slice t.2.1 (mkE q t.1).fSeen.length t.2.2) _; rw [mkE_len]; rw [hl5] at o6; rw [ht5] at o6; exact o6) (e6.mono (fun _ _ h => .inr h))
    rw [List.set_set] at hO6
    conv => whnf
    repeat (first | ((with_reducible refine NEXTK.normal ?_); conv => whnf) | ((with_reducible refine NEXTK.exit ?_); conv => whnf) | ((with_reducible refine NEXTK.ret ?_); conv => whnf) | ((with_reducible refine SEQ.plain ?_); conv => whnf) | ((with_reducible refine AR.ok ?_ ?_); exact ⟨by omega, by omega⟩; conv => whnf))
    refine ⟨(j + 1, us.set j t6), rfl, ⟨rfl, ?_, trivial⟩, rfl, rfl, ⟨by simp only at hlt ⊢; omega, ?_, ?_, hO6⟩, by simp only at hlt ⊢; omega⟩
    · refine congrArg (fun z => TV.v (Value.int .i64 z)) ?_
      simp only
      rw [List.take_add_one, ht, List.map_append]
      simp only [Option.toList_some, List.map_cons, List.map_nil]
      rw [(mkEs_snoc k _ t.1).2, hq, nxE, hl5]
    · simp only
      rw [List.map_set, h2, ht6]
      exact List.ext_getElem? (fun i => by
        rw [List.getElem?_set]
        split
        · rename_i hij
          subst hij
          rw [List.getElem?_map, ht]
          simp [hlt']
        · rfl)
    · simp only
      rw [List.map_set, h1, hdr, set_at hpl, List.take_add_one, ht, List.map_append]
      simp only [Option.toList_some, List.map_cons, List.map_nil]
      rw [(mkEs_snoc k _ t.1).1, hq, ht6]
      simp
  · have hjn : j = n := by simp only at hlt; omega
    repeat (any_goals (
      conv => whnf
      first
      | ((with_reducible refine BIF.dec ?_ ?_) <;> intro _)
      | ((with_reducible refine BIF.s ?_ ?_) <;> intro _)
      | (with_reducible refine NEXTK.normal ?_)
      | (with_reducible refine NEXTK.ret ?_)
      | (with_reducible refine NEXTK.exit ?_)
      | (with_reducible refine SEQ.plain ?_)
      | (with_reducible refine hK _ _ ?_)
      | ((with_reducible refine RUNL.agg (fun _ => ?_) ?_); (focus kernel_rfl))
      | (with_reducible refine RUNL.run ?_)
      | ((with_reducible refine AR.ok ?_ ?_); exact ⟨by first | omega | (dsimp only; omega), by first | omega | (dsimp only; omega)⟩)
      | (with_reducible refine AR.wr ?_)
      | ((with_reducible intro w3 e3); try have z3 := cutLe e3)
      | ((with_reducible intro h3); have h4 := Nat.le_of_lt h3; clear h4)))
    intro hx
    subst hjn
    rw [List.take_of_length_le (by omega)] at h1 ⊢
    refine ⟨_, rfl, hx, rfl, us, ?_, h2, hw⟩
    rw [h1, List.drop_eq_nil_of_le (by omega)]
    simp

theorem heldEntryS_c (a : Option Addr) (n cp : Nat) (ts : List Tri) (xs : List Ent) (k : Int) (w : World) (hr : Row w a 6 (ts.map encT)) (hs : SeenAt w ts) (hf : ts.map (·.1) = mkEs k xs) (hn : ts.length = n) (hm : n ≤ 4194304) (hz : lens ts ≤ 4194304) (hk : 1 ≤ k ∧ k ≤ 1000000000) :
    Calls Tryz.prog 13 #[.slice a n cp, .int .i64 k] w fun e w' => e = .returned (.int .i64 (nxEs k xs)) ∧ E0 w w' := by
  refine enterK Non 69 Tryz.func13 rfl rfl rfl fun K hK => ?_
  conv => whnf
  repeat (first | ((with_reducible refine NEXTK.normal ?_); conv => whnf) | ((with_reducible refine NEXTK.exit ?_); conv => whnf) | ((with_reducible refine NEXTK.ret ?_); conv => whnf) | ((with_reducible refine SEQ.plain ?_); conv => whnf) | ((with_reducible refine AR.ok ?_ ?_); exact ⟨by omega, by omega⟩; conv => whnf))
  have hxl : xs.length = ts.length := by have := congrArg List.length hf; rw [List.length_map, mkEs_len] at this; omega
  have hkq : ∀ j, j ≤ n → nxEs k (xs.take j) = k + 5 * j + lens (ts.take j) := by
    intro j hj
    induction j with
    | zero => simp [nxEs, lens]
    | succ j ih =>
      obtain ⟨t, ht⟩ : ∃ t, ts[j]? = some t := ⟨ts[j]'(by omega), by simp⟩
      obtain ⟨x, hx⟩ : ∃ x, xs[j]? = some x := ⟨xs[j]'(by omega), by simp⟩
      have h1 : (ts.map (·.1))[j]? = some t.1 := by rw [List.getElem?_map, ht]; rfl
      rw [hf, mkEs_get k xs j x hx] at h1
      have h2 : x.fSeen.length = t.1.fSeen.length := by rw [← Option.some.inj h1, mkE_len]
      rw [lens_take ht, List.take_add_one, hx]
      simp only [Option.toList_some]
      rw [(mkEs_snoc k _ x).2, nxE, ih (by omega), h2]
      push_cast
      omega
  refine LOOP.mk Nat (fun j => [(5, .v (.int .i64 j)), (1, .v (.int .i64 (nxEs k (xs.take j))))]) (fun j wr => j ≤ n) (fun j => n - j) 0 rfl ⟨rfl, by simp [lk, Nat.beq, nxEs], trivial⟩ (Nat.zero_le _) ?_
  rintro j wr hX0 hj
  conv => whnf
  repeat (first | ((with_reducible refine NEXTK.normal ?_); conv => whnf) | ((with_reducible refine NEXTK.exit ?_); conv => whnf) | ((with_reducible refine NEXTK.ret ?_); conv => whnf) | ((with_reducible refine SEQ.plain ?_); conv => whnf) | ((with_reducible refine AR.ok ?_ ?_); exact ⟨by omega, by omega⟩; conv => whnf))
  refine BIF.dec (fun hlt => ?_) (fun hlt => ?_)
  · have hlt' : j < ts.length := by omega
    have his := hr.isSome (by simp; omega)
    obtain ⟨t, ht⟩ : ∃ t, ts[j]? = some t := ⟨ts[j], by simp [hlt']⟩
    obtain ⟨x, hx⟩ : ∃ x, xs[j]? = some x := ⟨xs[j]'(by omega), by simp⟩
    have hmem := List.mem_of_getElem? ht
    have h1 : (ts.map (·.1))[j]? = some t.1 := by rw [List.getElem?_map, ht]; rfl
    rw [hf, mkEs_get k xs j x hx] at h1
    have hq := hkq j (by omega)
    have hq2 := hkq (j + 1) (by omega)
    have hsn : nxEs k (xs.take (j + 1)) = nxE (nxEs k (xs.take j)) x := by
      rw [List.take_add_one, hx]
      exact (mkEs_snoc k _ x).2
    rw [hsn] at hq2
    have hlp := lens_pre ts j
    have hlm := lens_mem hmem
    generalize nxEs k (xs.take j) = q at *
    have hrow := (hs t hmem).ext hX0 (mAddr_Non _)
    obtain ⟨y, p, c⟩ := t
    have h1 := Option.some.inj h1
    simp only at h1
    subst h1
    simp only [mkE_len] at hlm
    have hl6 : (mkE q x).fSeen.length = x.fSeen.length := mkE_len q x
    have hrow2 : Row wr p 1 (((List.range (mkE q x).fSeen.length).map (mkI (q + 1 + 1 + 1 + 1 + 1))).map encI) := by rw [mkE_len]; exact hrow
    repeat (any_goals (
      conv => whnf
      first
      | ((with_reducible refine OBL.mk ?_ (fun _ => ?_)); exact ⟨by first | omega | (dsimp only; omega), by first | omega | (dsimp only; omega), his⟩)
      | ((with_reducible refine ELD.at (j) hr ?_ ?_ ?_ (fun x' hx' => ?_)); exact mAddr_Non _; (first | rfl | omega); exact hlt'; obtain rfl : ((mkE q x, p, c) : Tri) = x' := by (rw [ht] at hx'; exact Option.some.inj hx'))
      | ((with_reducible refine DRAW.quietE ?_ ?_ ?_); kernel_rfl; kernel_rfl)
      | ((with_reducible refine callF (g := 41) ?_ ?_); kernel_rfl; refine ⟨_, markText_c _ _ (by omega), ?_⟩; intro w4 e4; have z4 := cutLe e4)
      | ((with_reducible refine callQ (g := 41) ?_ ?_); kernel_rfl; refine ⟨_, fun w' _ => markText_c _ w' (by omega), ?_⟩)
      | ((with_reducible refine callF (g := 43) ?_ ?_); kernel_rfl; refine ⟨_, heldIntS_c p (mkE q x).fSeen.length c (q + 1 + 1 + 1 + 1 + 1) _ (by repeat (first | assumption | refine Row.e0 ?_ (by assumption) | (refine Row.box (by assumption) (by assumption) (fun k hk h => notBk hk h (Nat.le_refl _)) ?_))) (by omega) (by omega), ?_⟩; intro w4 e4; have z4 := cutLe e4)
      | ((with_reducible refine BIF.sne (fun h => absurd rfl h) (fun _ => ?_)))
      | ((with_reducible refine BIF.bne (fun h => absurd rfl h) (fun _ => ?_)))
      | ((with_reducible refine BIF.dec ?_ ?_) <;> intro _)
      | ((exfalso; omega))
      | ((with_reducible refine BIF.dec ?_ ?_) <;> intro _)
      | ((with_reducible refine BIF.s ?_ ?_) <;> intro _)
      | (with_reducible refine NEXTK.normal ?_)
      | (with_reducible refine NEXTK.ret ?_)
      | (with_reducible refine NEXTK.exit ?_)
      | (with_reducible refine SEQ.plain ?_)
      | (with_reducible refine hK _ _ ?_)
      | ((with_reducible refine RUNL.agg (fun _ => ?_) ?_); (focus kernel_rfl))
      | (with_reducible refine RUNL.run ?_)
      | ((with_reducible refine AR.ok ?_ ?_); exact ⟨by first | omega | (dsimp only; omega), by first | omega | (dsimp only; omega)⟩)
      | (with_reducible refine AR.wr ?_)
      | ((with_reducible intro w3 e3); try have z3 := cutLe e3)
      | ((with_reducible intro h3); have h4 := Nat.le_of_lt h3; clear h4)))
    refine ⟨j + 1, rfl, ⟨rfl, ?_, trivial⟩, rfl, rfl, by omega, by omega⟩
    refine congrArg (fun z => TV.v (Value.int .i64 z)) ?_
    rw [hsn, nxE, hl6]
  · obtain rfl : j = n := by omega
    repeat (any_goals (
      conv => whnf
      first
      | ((with_reducible refine BIF.dec ?_ ?_) <;> intro _)
      | ((with_reducible refine BIF.s ?_ ?_) <;> intro _)
      | (with_reducible refine NEXTK.normal ?_)
      | (with_reducible refine NEXTK.ret ?_)
      | (with_reducible refine NEXTK.exit ?_)
      | (with_reducible refine SEQ.plain ?_)
      | (with_reducible refine hK _ _ ?_)
      | ((with_reducible refine RUNL.agg (fun _ => ?_) ?_); (focus kernel_rfl))
      | (with_reducible refine RUNL.run ?_)
      | ((with_reducible refine AR.ok ?_ ?_); exact ⟨by first | omega | (dsimp only; omega), by first | omega | (dsimp only; omega)⟩)
      | (with_reducible refine AR.wr ?_)
      | ((with_reducible intro w3 e3); try have z3 := cutLe e3)
      | ((with_reducible intro h3); have h4 := Nat.le_of_lt h3; clear h4)))
    intro hx
    rw [List.take_of_length_le (by omega)]
    exact ⟨rfl, hx⟩
theorem cellsIv {H : Type} {en : TypeId × Value → H} {w : World} {base : Nat} {spare : Nat → Bool} {held : Bool} (n : Nat) (cs : List Value) (x : DataW H × List MemPlace) (hl : cs.length = 1)
    (h : DataW.trod en Tryz.prog w base spare held n 3 cs = some x) : ∃ y : Int, cs = encI y ∧ fitI y := by
  match cs, hl with
  | [c0], _ =>
    obtain ⟨z0, q0, -, g0⟩ := DataW.trod_int Tryz.underlying3 h
    simp at q0
    subst q0
    exact ⟨z0, rfl, wf64 g0⟩
def goodT (w : World) (t : Tri) : Prop := Row w t.2.1 1 (t.1.fSeen.map encI) ∧ fitT t
theorem cellsEnt {H : Type} {en : TypeId × Value → H} {w : World} {base : Nat} {spare : Nat → Bool} {held : Bool} (n : Nat) (cs : List Value) (x : DataW H × List MemPlace) (hl : cs.length = 6)
    (h : DataW.trod en Tryz.prog w base spare held n 53 cs = some x) : ∃ t : Tri, cs = encT t ∧ goodT w t := by
  obtain ⟨-, hf⟩ := open_cells Tryz.underlying53 (by kernel_rfl) (by kernel_rfl) h
  match cs, hl with
  | [c0, c1, c2, c3, c4, c5], _ =>
    obtain ⟨v0, y0, n0, e0, t0⟩ := hf 0 _ rfl
    simp at e0
    subst e0
    obtain ⟨z0, q0, -, g0⟩ := DataW.trod_int Tryz.underlying3 t0
    simp at q0
    subst q0
    obtain ⟨v1, y1, n1, e1, t1⟩ := hf 1 _ rfl
    simp at e1
    subst e1
    obtain ⟨z1, q1, -, g1⟩ := DataW.trod_string Tryz.underlying9 t1
    simp at q1
    subst q1
    obtain ⟨v2, y2, n2, e2, t2⟩ := hf 2 _ rfl
    simp at e2
    subst e2
    obtain ⟨z2, q2, -, g2⟩ := DataW.trod_string Tryz.underlying9 t2
    simp at q2
    subst q2
    obtain ⟨v3, y3, n3, e3, t3⟩ := hf 3 _ rfl
    simp at e3
    subst e3
    obtain ⟨z3, q3, -, g3⟩ := DataW.trod_int Tryz.underlying3 t3
    simp at q3
    subst q3
    obtain ⟨v4, y4, n4, e4, t4⟩ := hf 4 _ rfl
    simp at e4
    subst e4
    obtain ⟨z4, q4, -, g4⟩ := DataW.trod_int Tryz.underlying3 t4
    simp at q4
    subst q4
    obtain ⟨v5, y5, n5, e5, t5⟩ := hf 5 _ rfl
    simp at e5
    subst e5
    obtain ⟨a, m, c, rfl⟩ : ∃ a m c, c5 = Value.slice a m c := by
      rcases Go.Deep.open_slice Tryz.underlying44 t5 with ⟨h0, _⟩ | ⟨ad, len, cap, m, n', D, Pl, hcs, _⟩
      · simp at h0
        exact ⟨_, _, _, h0⟩
      · simp at hcs
        exact ⟨_, _, _, hcs⟩
    obtain ⟨xs, w1, l1, b1, -⟩ := open_rows (en := encI) (good := fitI) Tryz.underlying44 (by kernel_rfl) cellsIv (d := y5.1) (p := y5.2) ⟨n5, t5⟩
    refine ⟨(⟨z0, z1, z2, z3, z4, xs⟩, a, c), by rw [encT]; simp [l1], w1, wf64 g0, g1, g2, wf64 g3, wf64 g4, by rw [← l1] at b1; exact b1⟩

end Go.Proofs.YtpddilkonkkppaaGreatDoor

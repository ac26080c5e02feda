/- Entries looked at again, and opened. -/
import Derived.Test.YtpddilkonkkppaaGreatDoorRows
import Derived.Test.YtpddilkonkkppaaGreatDoorEnt3
namespace Go.Proofs.YtpddilkonkkppaaGreatDoor
open Go Go.X Go.Proofs Go.ChangeShapes Go.WideShapes Go.ChangeAt Go.RowKit
open Go.ChangeMaps (open_string shut_string)
set_option maxHeartbeats 1000000
set_option maxRecDepth 20000
set_option linter.unusedVariables false
set_option linter.unusedSimpArgs false
theorem heldEntryS_c (a : Option Addr) (n cp : Nat) (ts : List Tri) (xs : List Ent) (k : Int) (w : World) (hr : Row w a 6 (ts.map encT)) (hs : SeenAt w ts) (hf : ts.map (·.1) = mkEs k xs) (hn : ts.length = n) (hm : n ≤ 4194304) (hz : lens ts ≤ 4194304) (hk : 1 ≤ k ∧ k ≤ 1000000000) :
    Calls Tryz.prog 13 #[.slice a n cp, .int .i64 k] w fun e w' => e = .returned (.int .i64 (nxEs k xs)) ∧ E0 w w' := by
  refine enterK Non 69 Tryz.func13 rfl rfl rfl fun K hK => ?_
  conv => whnf
  repeat (first | ((with_reducible refine NEXTK.normal ?_); conv => whnf) | ((with_reducible refine NEXTK.exit ?_); conv => whnf) | ((with_reducible refine NEXTK.ret ?_); conv => whnf) | ((with_reducible refine SEQ.plain ?_); conv => whnf) | ((with_reducible refine AR.ok ?_ ?_); exact ⟨by omega, by omega⟩; conv => whnf))
  have hxl : xs.length = ts.length := by have := congrArg List.length hf; rw [List.length_map, mkEs_len] at this; omega
  have hkq : ∀ j, j ≤ n → nxEs k (xs.take j) = k + 5 * j + lens (ts.take j) := by
    intro j hj
    induction j with
    | zero => simp [nxEs, lens]
    | succ j ih =>
      obtain ⟨t, ht⟩ : ∃ t, ts[j]? = some t := ⟨ts[j]'(by omega), by simp⟩
      obtain ⟨x, hx⟩ : ∃ x, xs[j]? = some x := ⟨xs[j]'(by omega), by simp⟩
      have h1 : (ts.map (·.1))[j]? = some t.1 := by rw [List.getElem?_map, ht]; rfl
      rw [hf, mkEs_get k xs j x hx] at h1
      have h2 : x.fSeen.length = t.1.fSeen.length := by rw [← Option.some.inj h1, mkE_len]
      rw [lens_take ht, List.take_add_one, hx]
      simp only [Option.toList_some]
      rw [(mkEs_snoc k _ x).2, nxE, ih (by omega), h2]
      push_cast
      omega
  refine LOOP.mk Nat (fun j => [(5, .v (.int .i64 j)), (1, .v (.int .i64 (nxEs k (xs.take j))))]) (fun j wr => j ≤ n) (fun j => n - j) 0 rfl ⟨rfl, by simp [lk, Nat.beq, nxEs], trivial⟩ (Nat.zero_le _) ?_
  rintro j wr hX0 hj
  conv => whnf
  repeat (first | ((with_reducible refine NEXTK.normal ?_); conv => whnf) | ((with_reducible refine NEXTK.exit ?_); conv => whnf) | ((with_reducible refine NEXTK.ret ?_); conv => whnf) | ((with_reducible refine SEQ.plain ?_); conv => whnf) | ((with_reducible refine AR.ok ?_ ?_); exact ⟨by omega, by omega⟩; conv => whnf))
  refine BIF.dec (fun hlt => ?_) (fun hlt => ?_)
  · have hlt' : j < ts.length := by omega
    have his := hr.isSome (by simp; omega)
    obtain ⟨t, ht⟩ : ∃ t, ts[j]? = some t := ⟨ts[j], by simp [hlt']⟩
    obtain ⟨x, hx⟩ : ∃ x, xs[j]? = some x := ⟨xs[j]'(by omega), by simp⟩
    have hmem := List.mem_of_getElem? ht
    have h1 : (ts.map (·.1))[j]? = some t.1 := by rw [List.getElem?_map, ht]; rfl
    rw [hf, mkEs_get k xs j x hx] at h1
    have hq := hkq j (by omega)
    have hq2 := hkq (j + 1) (by omega)
    have hsn : nxEs k (xs.take (j + 1)) = nxE (nxEs k (xs.take j)) x := by
      rw [List.take_add_one, hx]
      exact (mkEs_snoc k _ x).2
    rw [hsn] at hq2
    have hlp := lens_pre ts j
    have hlm := lens_mem hmem
    generalize nxEs k (xs.take j) = q at *
    have hrow := (hs t hmem).ext hX0 (mAddr_Non _)
    obtain ⟨y, p, c⟩ := t
    have h1 := Option.some.inj h1
    simp only at h1
    subst h1
    simp only [mkE_len] at hlm
    have hl6 : (mkE q x).fSeen.length = x.fSeen.length := mkE_len q x
    have hrow2 : Row wr p 1 (((List.range (mkE q x).fSeen.length).map (mkI (q + 1 + 1 + 1 + 1 + 1))).map encI) := by rw [mkE_len]; exact hrow
    repeat (any_goals (
      conv => whnf
      first
      | ((with_reducible refine OBL.mk ?_ (fun _ => ?_)); exact ⟨by first | omega | (dsimp only; omega), by first | omega | (dsimp only; omega), his⟩)
      | ((with_reducible refine ELD.at (j) hr ?_ ?_ ?_ (fun x' hx' => ?_)); exact mAddr_Non _; (first | rfl | omega); exact hlt'; obtain rfl : ((mkE q x, p, c) : Tri) = x' := by (rw [ht] at hx'; exact Option.some.inj hx'))
      | ((with_reducible refine DRAW.quietE ?_ ?_ ?_); kernel_rfl; kernel_rfl)
      | ((with_reducible refine callF (g := 41) ?_ ?_); kernel_rfl; refine ⟨_, markText_c _ _ (by omega), ?_⟩; intro w4 e4; have z4 := cutLe e4)
      | ((with_reducible refine callQ (g := 41) ?_ ?_); kernel_rfl; refine ⟨_, fun w' _ => markText_c _ w' (by omega), ?_⟩)
      | ((with_reducible refine callF (g := 43) ?_ ?_); kernel_rfl; refine ⟨_, heldIntS_c p (mkE q x).fSeen.length c (q + 1 + 1 + 1 + 1 + 1) _ (by repeat (first | assumption | refine Row.e0 ?_ (by assumption) | (refine Row.box (by assumption) (by assumption) (fun k hk h => notBk hk h (Nat.le_refl _)) ?_))) (by omega) (by omega), ?_⟩; intro w4 e4; have z4 := cutLe e4)
      | ((with_reducible refine BIF.sne (fun h => absurd rfl h) (fun _ => ?_)))
      | ((with_reducible refine BIF.bne (fun h => absurd rfl h) (fun _ => ?_)))
      | ((with_reducible refine BIF.dec ?_ ?_) <;> intro _)
      | ((exfalso; omega))
      | ((with_reducible refine BIF.dec ?_ ?_) <;> intro _)
      | ((with_reducible refine BIF.s ?_ ?_) <;> intro _)
      | (with_reducible refine NEXTK.normal ?_)
      | (with_reducible refine NEXTK.ret ?_)
      | (with_reducible refine NEXTK.exit ?_)
      | (with_reducible refine SEQ.plain ?_)
      | (with_reducible refine hK _ _ ?_)
      | ((with_reducible refine RUNL.agg (fun _ => ?_) ?_); (focus kernel_rfl))
      | (with_reducible refine RUNL.run ?_)
      | ((with_reducible refine AR.ok ?_ ?_); exact ⟨by first | omega | (dsimp only; omega), by first | omega | (dsimp only; omega)⟩)
      | (with_reducible refine AR.wr ?_)
      | ((with_reducible intro w3 e3); try have z3 := cutLe e3)
      | ((with_reducible intro h3); have h4 := Nat.le_of_lt h3; clear h4)))
    refine ⟨j + 1, rfl, ⟨rfl, ?_, trivial⟩, rfl, rfl, by omega, by omega⟩
    refine congrArg (fun z => TV.v (Value.int .i64 z)) ?_
    rw [hsn, nxE, hl6]
  · obtain rfl : j = n := by omega
    repeat (any_goals (
      conv => whnf
      first
      | ((with_reducible refine BIF.dec ?_ ?_) <;> intro _)
      | ((with_reducible refine BIF.s ?_ ?_) <;> intro _)
      | (with_reducible refine NEXTK.normal ?_)
      | (with_reducible refine NEXTK.ret ?_)
      | (with_reducible refine NEXTK.exit ?_)
      | (with_reducible refine SEQ.plain ?_)
      | (with_reducible refine hK _ _ ?_)
      | ((with_reducible refine RUNL.agg (fun _ => ?_) ?_); (focus kernel_rfl))
      | (with_reducible refine RUNL.run ?_)
      | ((with_reducible refine AR.ok ?_ ?_); exact ⟨by first | omega | (dsimp only; omega), by first | omega | (dsimp only; omega)⟩)
      | (with_reducible refine AR.wr ?_)
      | ((with_reducible intro w3 e3); try have z3 := cutLe e3)
      | ((with_reducible intro h3); have h4 := Nat.le_of_lt h3; clear h4)))
    intro hx
    rw [List.take_of_length_le (by omega)]
    exact ⟨rfl, hx⟩
theorem cellsIv {H : Type} {en : TypeId × Value → H} {w : World} {base : Nat} {spare : Nat → Bool} {held : Bool} (n : Nat) (cs : List Value) (x : DataW H × List MemPlace) (hl : cs.length = 1)
    (h : DataW.trod en Tryz.prog w base spare held n 3 cs = some x) : ∃ y : Int, cs = encI y ∧ fitI y := by
  match cs, hl with
  | [c0], _ =>
    obtain ⟨z0, q0, -, g0⟩ := DataW.trod_int Tryz.underlying3 h
    simp at q0
    subst q0
    exact ⟨z0, rfl, wf64 g0⟩
def goodT (w : World) (t : Tri) : Prop := Row w t.2.1 1 (t.1.fSeen.map encI) ∧ fitT t
theorem cellsEnt {H : Type} {en : TypeId × Value → H} {w : World} {base : Nat} {spare : Nat → Bool} {held : Bool} (n : Nat) (cs : List Value) (x : DataW H × List MemPlace) (hl : cs.length = 6)
    (h : DataW.trod en Tryz.prog w base spare held n 53 cs = some x) : ∃ t : Tri, cs = encT t ∧ goodT w t := by
  obtain ⟨-, hf⟩ := open_cells Tryz.underlying53 (by kernel_rfl) (by kernel_rfl) h
  match cs, hl with
  | [c0, c1, c2, c3, c4, c5], _ =>
    obtain ⟨v0, y0, n0, e0, t0⟩ := hf 0 _ rfl
    simp at e0
    subst e0
    obtain ⟨z0, q0, -, g0⟩ := DataW.trod_int Tryz.underlying3 t0
    simp at q0
    subst q0
    obtain ⟨v1, y1, n1, e1, t1⟩ := hf 1 _ rfl
    simp at e1
    subst e1
    obtain ⟨z1, q1, -, g1⟩ := DataW.trod_string Tryz.underlying9 t1
    simp at q1
    subst q1
    obtain ⟨v2, y2, n2, e2, t2⟩ := hf 2 _ rfl
    simp at e2
    subst e2
    obtain ⟨z2, q2, -, g2⟩ := DataW.trod_string Tryz.underlying9 t2
    simp at q2
    subst q2
    obtain ⟨v3, y3, n3, e3, t3⟩ := hf 3 _ rfl
    simp at e3
    subst e3
    obtain ⟨z3, q3, -, g3⟩ := DataW.trod_int Tryz.underlying3 t3
    simp at q3
    subst q3
    obtain ⟨v4, y4, n4, e4, t4⟩ := hf 4 _ rfl
    simp at e4
    subst e4
    obtain ⟨z4, q4, -, g4⟩ := DataW.trod_int Tryz.underlying3 t4
    simp at q4
    subst q4
    obtain ⟨v5, y5, n5, e5, t5⟩ := hf 5 _ rfl
    simp at e5
    subst e5
    obtain ⟨a, m, c, rfl⟩ : ∃ a m c, c5 = Value.slice a m c := by
      rcases Go.Deep.open_slice Tryz.underlying44 t5 with ⟨h0, _⟩ | ⟨ad, len, cap, m, n', D, Pl, hcs, _⟩
      · simp at h0
        exact ⟨_, _, _, h0⟩
      · simp at hcs
        exact ⟨_, _, _, hcs⟩
    obtain ⟨xs, w1, l1, b1, -⟩ := open_rows (en := encI) (good := fitI) Tryz.underlying44 (by kernel_rfl) cellsIv (d := y5.1) (p := y5.2) ⟨n5, t5⟩
    refine ⟨(⟨z0, z1, z2, z3, z4, xs⟩, a, c), by rw [encT]; simp [l1], w1, wf64 g0, g1, g2, wf64 g3, wf64 g4, by rw [← l1] at b1; exact b1⟩

end Go.Proofs.YtpddilkonkkppaaGreatDoor

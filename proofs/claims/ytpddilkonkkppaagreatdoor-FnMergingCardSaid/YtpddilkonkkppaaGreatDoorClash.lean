/- Where entries clash, as the program has it. -/
import Derived.Test.YtpddilkonkkppaaGreatDoorRows
import Derived.Test.YtpddilkonkkppaaGreatDoorTwo
namespace Go.Proofs.YtpddilkonkkppaaGreatDoor
open Go Go.X Go.Proofs Go.ChangeShapes Go.WideShapes Go.ChangeAt Go.RowKit
open Go.ChangeMaps (open_string shut_string)
set_option maxHeartbeats 1000000
set_option maxRecDepth 20000
set_option linter.unusedVariables false
set_option linter.unusedSimpArgs false
theorem clashes_c (t u : Tri) (w : World) (hT : Tab w) (ht : 0 ≤ t.1.fYear ∧ t.1.fYear ≤ 9223372036854775807) (hu : 0 ≤ u.1.fYear ∧ u.1.fYear ≤ 9223372036854775807) :
    Calls Tryz.prog 38 #[.agg (encT t).toArray, .agg (encT u).toArray] w fun e w' => ∃ v, e = .returned v ∧ E0 w w' ∧ Own w' w.heap.size 63 3 v ((clashP t.1 u.1).map encCla) := by
  refine enterK Non 68 Tryz.func38 rfl rfl rfl fun K hK => ?_
  repeat (any_goals (
    conv => whnf
    first
    | ((with_reducible refine BIF.sne ?_ ?_) <;> intro _)
    | ((with_reducible refine BIF.bne ?_ ?_) <;> intro _)
    | ((with_reducible refine BIF.dec ?_ ?_) <;> intro _)
    | ((with_reducible refine BIF.s ?_ ?_) <;> intro _)
    | (with_reducible refine NEXTK.normal ?_)
    | (with_reducible refine NEXTK.ret ?_)
    | (with_reducible refine NEXTK.exit ?_)
    | (with_reducible refine SEQ.plain ?_)
    | (with_reducible refine hK _ _ ?_)
    | ((with_reducible refine RUNL.agg (fun _ => ?_) ?_); (focus kernel_rfl))
    | (with_reducible refine RUNL.run ?_)
    | ((with_reducible refine AR.ok ?_ ?_); exact ⟨by first | omega | (dsimp only; omega), by first | omega | (dsimp only; omega)⟩)
    | (with_reducible refine AR.wr ?_)
    | ((with_reducible intro w3 e3); try have z3 := cutLe e3)
    | ((with_reducible intro h3); have h4 := Nat.le_of_lt h3; clear h4)))
  all_goals
    have oC : Own w3 w3.heap.size 63 3 (.slice none 0 0) (([] : List Cla).map encCla) := Own.nil _ _ _ _
    have hbox : w.heap.size + 2 ≤ w3.heap.size := by omega
    obtain ⟨cs, hcs⟩ : ∃ cs : List Cla, cs = [] := ⟨_, rfl⟩
    obtain ⟨lo, hlo⟩ : ∃ lo, lo = w3.heap.size := ⟨_, rfl⟩
    obtain ⟨aC, nC, dC, hv0, hnC⟩ : ∃ (aC : Option Addr) (nC dC : Nat), Value.slice none 0 0 = Value.slice aC nC dC ∧ nC = cs.length := ⟨_, _, _, rfl, by rw [hcs]; rfl⟩
    replace oC : Own w3 lo 63 3 (.slice aC nC dC) (cs.map encCla) := by rw [hcs, hlo, ← hv0]; exact oC
    rw [hv0]
    have oL := fun k h => oC.block (k := k) h
    have hcl : cs.length ≤ 3 := by rw [hcs]; simp
    clear hv0
    repeat (any_goals (
      conv => whnf
      first
      | ((with_reducible intro w3 e3); have z3 := cutLe e3; replace oC := oC.e0 e3; (try replace oB := oB.e0 e3))
      | ((with_reducible refine BIF.sne ?_ ?_) <;> intro _)
      | ((with_reducible refine BIF.bne ?_ ?_) <;> intro _)
      | ((with_reducible refine bsS elemCla [.agg (encCla ⟨1, t.1.fTitle, u.1.fTitle⟩).toArray] ?_ ?_ ?_ ?_ ?_); (focus rfl); (focus rfl); (focus (intro v hv; simp at hv; subst hv; rfl)); (focus omega); intro w9 e9 oB; have z9 := cutLe e9; replace oC := oC.e0 e9; obtain ⟨nc, hnc⟩ : ∃ nc : Cla, nc = ⟨1, t.1.fTitle, u.1.fTitle⟩ := ⟨_, rfl⟩; replace oB : Own w9 _ 63 3 _ ([nc].map encCla) := (by rw [hnc]; exact oB))
      | ((with_reducible refine bsS elemCla [.agg (encCla ⟨2, t.1.fPlace, u.1.fPlace⟩).toArray] ?_ ?_ ?_ ?_ ?_); (focus rfl); (focus rfl); (focus (intro v hv; simp at hv; subst hv; rfl)); (focus omega); intro w9 e9 oB; have z9 := cutLe e9; replace oC := oC.e0 e9; obtain ⟨nc, hnc⟩ : ∃ nc : Cla, nc = ⟨2, t.1.fPlace, u.1.fPlace⟩ := ⟨_, rfl⟩; replace oB : Own w9 _ 63 3 _ ([nc].map encCla) := (by rw [hnc]; exact oB))
      | ((with_reducible refine bsS elemCla [.agg (encCla ⟨3, numS t.1.fYear, numS u.1.fYear⟩).toArray] ?_ ?_ ?_ ?_ ?_); (focus rfl); (focus rfl); (focus (intro v hv; simp at hv; subst hv; rfl)); (focus omega); intro w9 e9 oB; have z9 := cutLe e9; replace oC := oC.e0 e9; obtain ⟨nc, hnc⟩ : ∃ nc : Cla, nc = ⟨3, numS t.1.fYear, numS u.1.fYear⟩ := ⟨_, rfl⟩; replace oB : Own w9 _ 63 3 _ ([nc].map encCla) := (by rw [hnc]; exact oB))
      | ((with_reducible refine apS elemCla oC oB.row.1 ?_ ?_ ?_ ?_ ?_ (fun v2 w2 x2 o2 => ?_)); (focus rfl); (focus exact (by intro l hl; obtain ⟨x, -, rfl⟩ := List.mem_map.1 hl; rfl)); (focus exact ⟨by simp; omega, by simp; omega⟩); (focus exact ⟨(by show w.heap.size ≤ _; omega), by omega⟩); (focus exact (by repeat (first | exact trivial | (refine ⟨?_, ?_⟩; (focus (intro h; have hh := oL _ h; dsimp only at hh; omega)))))); have z2 := cutLe x2; obtain ⟨cs, hcs2⟩ : ∃ c2, c2 = cs ++ [nc] := ⟨_, rfl⟩; replace oC : Own w2 lo 63 3 v2 (cs.map encCla) := (by rw [hcs2]; simpa using o2); clear o2; have oL := fun k h => oC.block (k := k) h; obtain ⟨bC, dD, rfl, qC, pC⟩ := oC.rowx; rw [hcs, hnc] at hcs2; clear hcs; have hcs := hcs2; clear hcs2; have hcl : cs.length ≤ 3 := (by rw [hcs]; simp))
      | ((with_reducible refine DRAW.plan (id := 7) (.one 0 (.one 1 (.one 4 (.start (.alt 2 (.start (.alt 3 (.start (.alt 5 (.start (.alt 6 (.one 7 (.start (.alt 8 (.start (.alt 9 (.one 10 .done) .stop)) .stop))) .stop)) .stop)) (.alt 5 (.start (.alt 3 (.start (.alt 6 (.one 7 (.start (.alt 8 (.start (.alt 9 (.one 10 .done) .stop)) .stop))) .stop)) .stop)) .stop))) (.alt 5 (.start (.alt 2 (.start (.alt 3 (.start (.alt 6 (.one 7 (.start (.alt 8 (.start (.alt 9 (.one 10 .done) .stop)) .stop))) .stop)) .stop)) .stop)) .stop)))))) ?_ ?_ ?_ ?_); kernel_rfl; kernel_rfl; kernel_rfl)
      | (with_reducible refine And.intro ?_ ?_)
      | (exact True.intro)
      | ((with_reducible refine callX (g := 71) ?_ ?_); kernel_rfl; intro hX; refine ⟨_, text_c _ _ (by unfold I64; omega) (TabIs.e0 hT hX), ?_⟩; clear hX; intro w4 e4; have z4 := cutLe e4; replace oC := oC.e0 e4)
      | ((with_reducible refine BIF.dec ?_ ?_) <;> intro _)
      | ((with_reducible refine BIF.s ?_ ?_) <;> intro _)
      | (with_reducible refine NEXTK.normal ?_)
      | (with_reducible refine NEXTK.ret ?_)
      | (with_reducible refine NEXTK.exit ?_)
      | (with_reducible refine SEQ.plain ?_)
      | (with_reducible refine hK _ _ ?_)
      | ((with_reducible refine RUNL.agg (fun _ => ?_) ?_); (focus kernel_rfl))
      | (with_reducible refine RUNL.run ?_)
      | ((with_reducible refine AR.ok ?_ ?_); exact ⟨by first | omega | (dsimp only; omega), by first | omega | (dsimp only; omega)⟩)
      | (with_reducible refine AR.wr ?_)
      | ((with_reducible intro w3 e3); try have z3 := cutLe e3)
      | ((with_reducible intro h3); have h4 := Nat.le_of_lt h3; clear h4)))
    all_goals
      intro hx
      have hfin : cs = clashP t.1 u.1 := by
        rw [hcs]
        clear hK oC oL
        unfold clashP
        have e0 : (⟨#[]⟩ : ByteArray) = ByteArray.empty := rfl
        simp only [e0] at *
        simp_all
      first
      | exact ⟨_, rfl, hx, (hfin ▸ oC).lo (by omega)⟩
      | exact ⟨_, rfl, hx, (by rw [← hfin]; first | exact oC.lo (by omega) | (rw [← hnC]; exact oC.lo (by omega)))⟩

end Go.Proofs.YtpddilkonkkppaaGreatDoor

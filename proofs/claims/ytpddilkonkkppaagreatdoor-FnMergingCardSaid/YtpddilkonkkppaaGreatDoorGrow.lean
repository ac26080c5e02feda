/- Numbers joined. -/
import Derived.Test.YtpddilkonkkppaaGreatDoorRows
import Derived.Test.YtpddilkonkkppaaGreatDoorMerge9
import Derived.Shelf.Spec.SlicesGrow
namespace Go.Proofs.YtpddilkonkkppaaGreatDoor
open Go Go.X Go.Proofs Go.ChangeShapes Go.WideShapes Go.ChangeAt Go.RowKit
open Go.ChangeMaps (open_string shut_string)
set_option maxHeartbeats 1000000
set_option maxRecDepth 20000
set_option linter.unusedVariables false
set_option linter.unusedSimpArgs false
def growR : Go.Shelf.Ren := ⟨fun | 4 => 106 | n => n, fun | 20 => 20 | 22 => 44 | 25 => 3 | 0 => 0 | 3 => 3 | 4 => 4 | 9 => 9 | n => n, fun n => n⟩
theorem growL : Go.Proofs.Lays8.n4 Tryz.prog growR := {
  mixed := by kernel_rfl
  f4 := ⟨Tryz.f106.name, by kernel_rfl, Tryz.func106.trans (congrArg some (by kernel_rfl))⟩
  t0 := Tryz.underlying0
  a0 := Tryz.isAgg0
  z0 := Tryz.sizeOf0
  v0 := Tryz.zeroValue0
  t3 := Tryz.underlying3
  a3 := Tryz.isAgg3
  z3 := Tryz.sizeOf3
  v3 := Tryz.zeroValue3
  t4 := Tryz.underlying4
  a4 := Tryz.isAgg4
  z4 := Tryz.sizeOf4
  v4 := Tryz.zeroValue4
  t9 := Tryz.underlying9
  a9 := Tryz.isAgg9
  z9 := Tryz.sizeOf9
  v9 := Tryz.zeroValue9
  t20 := Tryz.underlying20
  a20 := Tryz.isAgg20
  z20 := Tryz.sizeOf20
  v20 := Tryz.zeroValue20
  t22 := Tryz.underlying44
  a22 := Tryz.isAgg44
  z22 := Tryz.sizeOf44
  v22 := Tryz.zeroValue44 }
theorem GrowI_c (n : Nat) (w : World) (hn : n ≤ 1048577) :
    Calls Tryz.prog 106 #[.slice none 0 0, .int .i64 n] w fun e w' => ∃ r, e = .returned r ∧ E0 w w' ∧ Own w' w.heap.size 3 1 r (([] : List Int).map encI) := by
  by_cases h0 : n = 0
  · subst h0
    refine (Any8.slices_Grow_room growL none 0 0 0 w (by omega) (by omega) (by omega) (by omega)).mono fun e w' ⟨h1, h2⟩ => ?_
    subst h2
    exact ⟨_, h1, Ext.refl _ _, Own.nil _ _ _ _⟩
  · obtain ⟨-, ⟨i, hi, hsz, hb, zv, hz, hc⟩, -, -⟩ := elemI
    refine (Any8.slices_Grow_grow growL i zv hi hz (by omega) none 0 0 n [] w (by omega) (by omega) (by rw [hb]; omega) (by omega) (by simp) (fun _ => rfl) (by simp)).mono fun e w' ⟨h1, h2⟩ => ?_
    have hcz : zv.cells.size = 1 := by rw [hc]; rfl
    subst h2
    rw [Nat.zero_add] at h1 ⊢
    have hge := grownCap_ge w n 0 (growR.t 25)
    have hle := grownCap_le_maxLen w n 0 (growR.t 25) (by unfold maxLen; omega)
    refine ⟨_, h1, (E0.alloc w _).drawn (w.drawn + 1), ⟨⟨by simp, .inr ⟨w.heap.size, _, _, rfl, Nat.le_refl _, heap_alloc_new _ _, Nat.zero_le _, hle, ?_, rfl⟩⟩, by intro l hl; simp at hl⟩⟩
    simp only [Builtin.zeroCells, Array.size_append, Array.size_map, Array.size_range, hcz]
    simp
    omega

abbrev LI := List Int × Option Addr × Nat
def encL (t : LI) : List Value := [.slice t.2.1 t.1.length t.2.2]
def catL (ls : List LI) : List Int := ls.flatMap (·.1)
theorem catL_take {ls : List LI} {k : Nat} {t : LI} (h : ls[k]? = some t) : catL (ls.take (k + 1)) = catL (ls.take k) ++ t.1 := by
  unfold catL
  rw [List.take_add_one, h, List.flatMap_append]; simp
theorem catL_pre (ls : List LI) (k : Nat) : (catL (ls.take k)).length ≤ (catL ls).length := by
  conv => rhs; rw [← List.take_append_drop k ls]
  unfold catL
  rw [List.flatMap_append, List.length_append]; omega
theorem ConcatI_c (a : Option Addr) (n cp : Nat) (ls : List LI) (w : World) (hr : Row w a 1 (ls.map encL)) (hn : ls.length = n) (hm : n ≤ 1000) (hs : ∀ t ∈ ls, Row w t.2.1 1 (t.1.map encI)) (hz : (catL ls).length ≤ 1048577) :
    Calls Tryz.prog 93 #[.slice a n cp] w fun e w' => ∃ r, e = .returned r ∧ E0 w w' ∧ Own w' w.heap.size 3 1 r ((catL ls).map encI) := by
  refine enterK Non 36 Tryz.func93 rfl rfl rfl fun K hK => ?_
  conv => whnf
  repeat (first | ((with_reducible refine NEXTK.normal ?_); conv => whnf) | ((with_reducible refine NEXTK.exit ?_); conv => whnf) | ((with_reducible refine NEXTK.ret ?_); conv => whnf) | ((with_reducible refine SEQ.plain ?_); conv => whnf) | ((with_reducible refine AR.ok ?_ ?_); exact ⟨by omega, by omega⟩; conv => whnf))
  refine LOOP.mk Nat (fun k => [(11, .v (.int .i64 k)), (3, .v (.int .i64 (catL (ls.take k)).length))]) (fun k _ => k ≤ n) (fun k => n - k) 0 rfl ⟨rfl, rfl, trivial⟩ (Nat.zero_le _) ?_
  rintro k wr hX0 hk
  have hlw0 : w.heap.size ≤ wr.heap.size := cutLe hX0
  conv => whnf
  repeat (first | ((with_reducible refine NEXTK.normal ?_); conv => whnf) | ((with_reducible refine NEXTK.exit ?_); conv => whnf) | ((with_reducible refine NEXTK.ret ?_); conv => whnf) | ((with_reducible refine SEQ.plain ?_); conv => whnf) | ((with_reducible refine AR.ok ?_ ?_); exact ⟨by omega, by omega⟩; conv => whnf))
  refine BIF.dec (fun hlt => ?_) (fun hlt => ?_)
  · have hlt' : k < ls.length := by omega
    have his := hr.isSome (by simp; omega)
    obtain ⟨t, ht⟩ : ∃ t, ls[k]? = some t := ⟨ls[k], by simp⟩
    have hct := catL_take ht
    have hcp := catL_pre ls (k + 1)
    have hcl := congrArg List.length hct
    rw [List.length_append] at hcl
    repeat (any_goals (
      conv => whnf
      first
      | ((with_reducible refine OBL.mk ?_ (fun _ => ?_)); exact ⟨by first | omega | (dsimp only; omega), by first | omega | (dsimp only; omega), his⟩)
      | ((with_reducible refine ELD.at (k) hr ?_ ?_ ?_ (fun x' hx' => ?_)); exact mAddr_Non _; (first | rfl | omega); exact hlt'; obtain rfl : t = x' := by (rw [ht] at hx'; exact Option.some.inj hx'))
      | ((with_reducible refine BIF.dec ?_ ?_) <;> intro _)
      | ((exfalso; omega))
      | ((with_reducible refine BIF.dec ?_ ?_) <;> intro _)
      | ((with_reducible refine BIF.s ?_ ?_) <;> intro _)
      | (with_reducible refine NEXTK.normal ?_)
      | (with_reducible refine NEXTK.ret ?_)
      | (with_reducible refine NEXTK.exit ?_)
      | (with_reducible refine SEQ.plain ?_)
      | (with_reducible refine hK _ _ ?_)
      | ((with_reducible refine RUNL.agg (fun _ => ?_) ?_); (focus kernel_rfl))
      | (with_reducible refine RUNL.run ?_)
      | ((with_reducible refine AR.ok ?_ ?_); exact ⟨by first | omega | (dsimp only; omega), by first | omega | (dsimp only; omega)⟩)
      | (with_reducible refine AR.wr ?_)
      | ((with_reducible intro w3 e3); try have z3 := cutLe e3)
      | ((with_reducible intro h3); have h4 := Nat.le_of_lt h3; clear h4)))
    refine ⟨k + 1, rfl, ⟨rfl, ?_, trivial⟩, rfl, rfl, by omega, by omega⟩
    refine congrArg (fun z => TV.v (Value.int .i64 z)) ?_
    omega
  · have hkn : k = ls.length := by omega
    have hfull : catL (ls.take k) = catL ls := by rw [hkn, List.take_length]
    rw [hfull]
    repeat (any_goals (
      conv => whnf
      first
      | ((with_reducible refine callY (g := 106) ?_ ?_); kernel_rfl; refine ⟨_, fun _ => GrowI_c _ _ (by omega), ?_⟩; intro r5 w5 e5 o5; have z6 := cutLe e5; obtain ⟨b5, d5, rfl, q5, z5⟩ := o5.rowx)
      | ((with_reducible refine BIF.dec ?_ ?_) <;> intro _)
      | ((with_reducible refine BIF.s ?_ ?_) <;> intro _)
      | (with_reducible refine NEXTK.normal ?_)
      | (with_reducible refine NEXTK.ret ?_)
      | (with_reducible refine NEXTK.exit ?_)
      | (with_reducible refine SEQ.plain ?_)
      | (with_reducible refine hK _ _ ?_)
      | ((with_reducible refine RUNL.agg (fun _ => ?_) ?_); (focus kernel_rfl))
      | (with_reducible refine RUNL.run ?_)
      | ((with_reducible refine AR.ok ?_ ?_); exact ⟨by first | omega | (dsimp only; omega), by first | omega | (dsimp only; omega)⟩)
      | (with_reducible refine AR.wr ?_)
      | ((with_reducible intro w3 e3); try have z3 := cutLe e3)
      | ((with_reducible intro h3); have h4 := Nat.le_of_lt h3; clear h4)))
    conv => whnf
    refine LOOP.mk (Nat × (Option Addr × Nat × Nat)) (fun g => [(27, .v (.int .i64 g.1)), (6, .v (.slice g.2.1 g.2.2.1 g.2.2.2))]) (fun g ws => g.1 ≤ n ∧ Own ws w.heap.size 3 1 (.slice g.2.1 g.2.2.1 g.2.2.2) ((catL (ls.take g.1)).map encI)) (fun g => n - g.1) (0, (b5, _, d5)) rfl ⟨rfl, rfl, trivial⟩ ⟨Nat.zero_le _, by simp only [catL, List.take_zero, List.flatMap_nil]; exact o5.lo (by omega)⟩ ?_
    rintro ⟨q, ⟨a1, n1, c1⟩⟩ ws hX1 ⟨hq, ho⟩
    simp only at hq ho
    have hlw : w.heap.size ≤ ws.heap.size := cutLe hX1
    dsimp only
    conv => whnf
    repeat (first | ((with_reducible refine NEXTK.normal ?_); conv => whnf) | ((with_reducible refine NEXTK.exit ?_); conv => whnf) | ((with_reducible refine NEXTK.ret ?_); conv => whnf) | ((with_reducible refine SEQ.plain ?_); conv => whnf) | ((with_reducible refine AR.ok ?_ ?_); exact ⟨by omega, by omega⟩; conv => whnf))
    refine BIF.dec (fun hlt2 => ?_) (fun hlt2 => ?_)
    · have hlt' : q < ls.length := by omega
      have his := hr.isSome (by simp; omega)
      obtain ⟨t, ht⟩ : ∃ t, ls[q]? = some t := ⟨ls[q], by simp⟩
      have hct := catL_take ht
      have hcp := catL_pre ls (q + 1)
      rw [hct, List.length_append] at hcp
      repeat (any_goals (
        conv => whnf
        first
        | ((with_reducible refine OBL.mk ?_ (fun _ => ?_)); exact ⟨by first | omega | (dsimp only; omega), by first | omega | (dsimp only; omega), his⟩)
        | ((with_reducible refine ELD.at (q) hr ?_ ?_ ?_ (fun x' hx' => ?_)); exact mAddr_Non _; (first | rfl | omega); exact hlt'; obtain rfl : t = x' := by (rw [ht] at hx'; exact Option.some.inj hx'))
        | ((with_reducible refine BIF.dec ?_ ?_) <;> intro _)
        | ((with_reducible refine BIF.s ?_ ?_) <;> intro _)
        | (with_reducible refine NEXTK.normal ?_)
        | (with_reducible refine NEXTK.ret ?_)
        | (with_reducible refine NEXTK.exit ?_)
        | (with_reducible refine SEQ.plain ?_)
        | (with_reducible refine hK _ _ ?_)
        | ((with_reducible refine RUNL.agg (fun _ => ?_) ?_); (focus kernel_rfl))
        | (with_reducible refine RUNL.run ?_)
        | ((with_reducible refine AR.ok ?_ ?_); exact ⟨by first | omega | (dsimp only; omega), by first | omega | (dsimp only; omega)⟩)
        | (with_reducible refine AR.wr ?_)
        | ((with_reducible intro w3 e3); try have z3 := cutLe e3)
        | ((with_reducible intro h3); have h4 := Nat.le_of_lt h3; clear h4)))
      conv => whnf
      refine WOP.x (fun hX => ?_)
      refine apS elemI ho ((hs t (List.mem_of_getElem? ht)).ext hX (mAddr_Non _)) (by simp) (by intro l hl; obtain ⟨x, -, rfl⟩ := List.mem_map.1 hl; rfl) ⟨by simp; omega, by simp; omega⟩ ⟨Nat.le_refl _, hlw⟩ trivial (fun v2 w2 x2 o2 => ?_)
      replace o2 : Own w2 w.heap.size 3 1 v2 ((catL (ls.take (q + 1))).map encI) := by rw [hct]; simpa using o2
      obtain ⟨b2, d2, rfl, q2, p2⟩ := o2.rowx
      repeat (any_goals (
        conv => whnf
        first
        | ((with_reducible refine BIF.dec ?_ ?_) <;> intro _)
        | ((with_reducible refine BIF.s ?_ ?_) <;> intro _)
        | (with_reducible refine NEXTK.normal ?_)
        | (with_reducible refine NEXTK.ret ?_)
        | (with_reducible refine NEXTK.exit ?_)
        | (with_reducible refine SEQ.plain ?_)
        | (with_reducible refine hK _ _ ?_)
        | ((with_reducible refine RUNL.agg (fun _ => ?_) ?_); (focus kernel_rfl))
        | (with_reducible refine RUNL.run ?_)
        | ((with_reducible refine AR.ok ?_ ?_); exact ⟨by first | omega | (dsimp only; omega), by first | omega | (dsimp only; omega)⟩)
        | (with_reducible refine AR.wr ?_)
        | ((with_reducible intro w3 e3); try have z3 := cutLe e3)
        | ((with_reducible intro h3); have h4 := Nat.le_of_lt h3; clear h4)))
      exact ⟨(q + 1, (b2, _, d2)), rfl, ⟨rfl, rfl, trivial⟩, rfl, rfl, ⟨by simp only; omega, o2⟩, by simp only; omega⟩
    · have hqn : q = ls.length := by omega
      repeat (any_goals (
        conv => whnf
        first
        | ((with_reducible refine BIF.dec ?_ ?_) <;> intro _)
        | ((with_reducible refine BIF.s ?_ ?_) <;> intro _)
        | (with_reducible refine NEXTK.normal ?_)
        | (with_reducible refine NEXTK.ret ?_)
        | (with_reducible refine NEXTK.exit ?_)
        | (with_reducible refine SEQ.plain ?_)
        | (with_reducible refine hK _ _ ?_)
        | ((with_reducible refine RUNL.agg (fun _ => ?_) ?_); (focus kernel_rfl))
        | (with_reducible refine RUNL.run ?_)
        | ((with_reducible refine AR.ok ?_ ?_); exact ⟨by first | omega | (dsimp only; omega), by first | omega | (dsimp only; omega)⟩)
        | (with_reducible refine AR.wr ?_)
        | ((with_reducible intro w3 e3); try have z3 := cutLe e3)
        | ((with_reducible intro h3); have h4 := Nat.le_of_lt h3; clear h4)))
      intro hx
      refine ⟨_, rfl, hx, ?_⟩
      rw [hqn, List.take_length] at ho
      exact ho

end Go.Proofs.YtpddilkonkkppaaGreatDoor

/- The first of two, and numbers sorted. -/
import Derived.Test.YtpddilkonkkppaaGreatDoorRows
import Derived.Test.YtpddilkonkkppaaGreatDoorMerge8
import Derived.Test.YtpddilkonkkppaaGreatDoorShelfS
namespace Go.Proofs.YtpddilkonkkppaaGreatDoor
open Go Go.X Go.Proofs Go.ChangeShapes Go.WideShapes Go.ChangeAt Go.RowKit
open Go.ChangeMaps (open_string shut_string)
set_option maxHeartbeats 1000000
set_option maxRecDepth 20000
set_option linter.unusedVariables false
set_option linter.unusedSimpArgs false
theorem OrS_c (a : Option Addr) (x y : ByteArray) (cp : Nat) (w : World) (hr : Row w a 1 ([x, y].map encS)) :
    Calls Tryz.prog 91 #[.slice a 2 cp] w fun e w' => e = .returned (.string (if x = ByteArray.empty then y else x)) ∧ E0 w w' := by
  refine enterK Non 18 Tryz.func91 rfl rfl rfl fun K hK => ?_
  have his := hr.isSome (by simp)
  have e0 : (⟨#[]⟩ : ByteArray) = ByteArray.empty := rfl
  conv => whnf
  repeat (first | ((with_reducible refine NEXTK.normal ?_); conv => whnf) | ((with_reducible refine NEXTK.exit ?_); conv => whnf) | ((with_reducible refine NEXTK.ret ?_); conv => whnf) | ((with_reducible refine SEQ.plain ?_); conv => whnf) | ((with_reducible refine AR.ok ?_ ?_); exact ⟨by omega, by omega⟩; conv => whnf))
  refine LOOP.mk Nat (fun k => [(8, .v (.int .i64 k))]) (fun k _ => k ≤ 2 ∧ (1 ≤ k → x = ByteArray.empty) ∧ (2 ≤ k → y = ByteArray.empty)) (fun k => 2 - k) 0 rfl ⟨rfl, trivial⟩ ⟨by omega, fun h => by omega, fun h => by omega⟩ ?_
  rintro k wr - ⟨hk, h1, h2⟩
  conv => whnf
  repeat (first | ((with_reducible refine NEXTK.normal ?_); conv => whnf) | ((with_reducible refine NEXTK.exit ?_); conv => whnf) | ((with_reducible refine NEXTK.ret ?_); conv => whnf) | ((with_reducible refine SEQ.plain ?_); conv => whnf) | ((with_reducible refine AR.ok ?_ ?_); exact ⟨by omega, by omega⟩; conv => whnf))
  refine BIF.dec (fun hlt => ?_) (fun hlt => ?_)
  · have hlt' : k < ([x, y] : List ByteArray).length := by show k < 2; omega
    obtain ⟨v, hv⟩ : ∃ v, ([x, y] : List ByteArray)[k]? = some v := ⟨_, List.getElem?_eq_getElem hlt'⟩
    repeat (any_goals (
      conv => whnf
      first
      | ((with_reducible refine OBL.mk ?_ (fun _ => ?_)); exact ⟨by first | omega | (dsimp only; omega), by first | omega | (dsimp only; omega), his⟩)
      | ((with_reducible refine ELD.at (k) hr ?_ ?_ ?_ (fun x' hx' => ?_)); exact mAddr_Non _; (first | rfl | omega); exact hlt'; obtain rfl : v = x' := by (rw [hv] at hx'; exact Option.some.inj hx'))
      | ((with_reducible refine BIF.sne ?_ ?_) <;> intro hne)
      | ((with_reducible refine BIF.dec ?_ ?_) <;> intro _)
      | ((with_reducible refine BIF.s ?_ ?_) <;> intro _)
      | (with_reducible refine NEXTK.normal ?_)
      | (with_reducible refine NEXTK.ret ?_)
      | (with_reducible refine NEXTK.exit ?_)
      | (with_reducible refine SEQ.plain ?_)
      | (with_reducible refine hK _ _ ?_)
      | ((with_reducible refine RUNL.agg (fun _ => ?_) ?_); (focus kernel_rfl))
      | (with_reducible refine RUNL.run ?_)
      | ((with_reducible refine AR.ok ?_ ?_); exact ⟨by first | omega | (dsimp only; omega), by first | omega | (dsimp only; omega)⟩)
      | (with_reducible refine AR.wr ?_)
      | ((with_reducible intro w3 e3); try have z3 := cutLe e3)
      | ((with_reducible intro h3); have h4 := Nat.le_of_lt h3; clear h4)))
    · intro hx
      refine ⟨?_, hx⟩
      rcases (by omega : k = 0 ∨ k = 1) with h | h
      · subst h
        simp at hv; subst hv
        rw [if_neg (show ¬ x = ByteArray.empty from hne)]; rfl
      · subst h
        simp at hv; subst hv
        rw [if_pos (h1 (by omega))]; rfl
    · refine ⟨k + 1, rfl, ⟨rfl, trivial⟩, rfl, rfl, ⟨by omega, fun _ => ?_, fun _ => ?_⟩, by omega⟩
      · rcases (by omega : k = 0 ∨ k = 1) with h | h
        · subst h; simp at hv; subst hv; exact hne
        · exact h1 (by omega)
      · obtain rfl : k = 1 := by omega
        simp at hv; subst hv; exact hne
  · repeat (any_goals (
      conv => whnf
      first
      | ((with_reducible refine BIF.dec ?_ ?_) <;> intro _)
      | ((with_reducible refine BIF.s ?_ ?_) <;> intro _)
      | (with_reducible refine NEXTK.normal ?_)
      | (with_reducible refine NEXTK.ret ?_)
      | (with_reducible refine NEXTK.exit ?_)
      | (with_reducible refine SEQ.plain ?_)
      | (with_reducible refine hK _ _ ?_)
      | ((with_reducible refine RUNL.agg (fun _ => ?_) ?_); (focus kernel_rfl))
      | (with_reducible refine RUNL.run ?_)
      | ((with_reducible refine AR.ok ?_ ?_); exact ⟨by first | omega | (dsimp only; omega), by first | omega | (dsimp only; omega)⟩)
      | (with_reducible refine AR.wr ?_)
      | ((with_reducible intro w3 e3); try have z3 := cutLe e3)
      | ((with_reducible intro h3); have h4 := Nat.le_of_lt h3; clear h4)))
    intro hx
    refine ⟨?_, hx⟩
    rw [if_pos (h1 (by omega)), h2 (by omega)]; rfl
def sortI (xs : List Int) : List Int := xs.mergeSort fun x y => decide (x ≤ y)
theorem sortI_len (xs : List Int) : (sortI xs).length = xs.length := List.length_mergeSort _
theorem SortI_c (lo : Nat) (a : Option Addr) (n c : Nat) (xs : List Int) (w : World) (ho : Own w lo 3 1 (.slice a n c) (xs.map encI)) (hn : xs.length = n) (hm : n ≤ 1048577) :
    Calls Tryz.prog 94 #[.slice a n c] w fun e w' => ∃ r, e = .returned r ∧ Ext (fun b => (Value.slice a n c).ownBlock = some b) w w' ∧ r = .tuple #[] ∧ Own w' lo 3 1 (.slice a n c) ((sortI xs).map encI) := by
  by_cases h0 : n = 0
  · have : xs = [] := List.eq_nil_of_length_eq_zero (by omega)
    subst this
    subst h0
    refine (Tryz.slices_Sort_int_none a c w).mono fun e w' ⟨h1, h2⟩ => ?_
    subst h2
    exact ⟨_, h1, Ext.refl _ _, rfl, by simpa [sortI] using ho⟩
  · obtain rfl : n = xs.length := hn.symm
    obtain ⟨⟨hA, hB⟩, hW⟩ := ho
    rcases hB with ⟨h1, h2⟩ | ⟨g, cap, cur, hv, hg, hh, h1, h2, h3, h4⟩
    · exfalso
      simp at h2
      exact h0 (by simp [h2])
    · simp only [Value.slice.injEq, List.length_map, true_and] at hv
      obtain ⟨rfl, rfl⟩ := hv
      have hfl : ∀ ys : List Int, (ys.map encI).flatten = ys.map (Value.int .i64) := by
        intro ys
        induction ys with
        | nil => rfl
        | cons x t ih => rw [List.map_cons, List.flatten_cons, ih]; rfl
      rw [List.length_map] at h1 h4
      rw [Nat.mul_one, hfl] at h4
      have hgs : g < w.heap.size := (Array.getElem?_eq_some_iff.1 hh).1
      refine (Tryz.slices_Sort_int g 0 c xs w (holds_of_blockI hh h4) hgs (by omega)).mono fun e w' ⟨he, n', os, hw'⟩ => ?_
      subst hw'
      refine ⟨_, he, ?_, rfl, ?_, ?_⟩
      · refine (Ext.ofGrown (grownBy_sortedI _)).mono (fun k _ hk => ?_)
        simpa [Value.ownBlock] using hk
      · rw [hfl, List.length_map, sortI_len]
        exact ownsRow_sortedI (sortI_len xs) hg hh h1 h2 h3
      · intro l hl
        obtain ⟨x, -, rfl⟩ := List.mem_map.1 hl
        rfl

end Go.Proofs.YtpddilkonkkppaaGreatDoor

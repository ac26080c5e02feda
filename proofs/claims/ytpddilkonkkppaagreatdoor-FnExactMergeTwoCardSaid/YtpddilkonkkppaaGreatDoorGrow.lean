/- Numbers joined. -/
import Derived.Test.YtpddilkonkkppaaGreatDoorRows
import Derived.Test.YtpddilkonkkppaaGreatDoorMerge9
import Derived.Shelf.Spec.SlicesGrow
namespace Go.Proofs.YtpddilkonkkppaaGreatDoor
open Go Go.X Go.Proofs Go.ChangeShapes Go.WideShapes Go.ChangeAt Go.RowKit
open Go.ChangeMaps (open_string shut_string)
set_option maxHeartbeats 1000000
set_option maxRecDepth 20000
set_option linter.unusedVariables false
set_option linter.unusedSimpArgs false
def growR : Go.Shelf.Ren := ⟨fun | 4 => 106 | n => n, fun | 20 => 20 | 22 => 44 | 25 => 3 | 0 => 0 | 3 => 3 | 4 => 4 | 9 => 9 | n => n, fun n => n⟩
theorem growL : Go.Proofs.Lays8.n4 Tryz.prog growR := {
  mixed := by kernel_rfl
  f4 := ⟨Tryz.f106.name, by kernel_rfl, Tryz.func106.trans (congrArg some (by kernel_rfl))⟩
  t0 := Tryz.underlying0
  a0 := Tryz.isAgg0
  z0 := Tryz.sizeOf0
  v0 := Tryz.zeroValue0
  t3 := Tryz.underlying3
  a3 := Tryz.isAgg3
  z3 := Tryz.sizeOf3
  v3 := Tryz.zeroValue3
  t4 := Tryz.underlying4
  a4 := Tryz.isAgg4
  z4 := Tryz.sizeOf4
  v4 := Tryz.zeroValue4
  t9 := Tryz.underlying9
  a9 := Tryz.isAgg9
  z9 := Tryz.sizeOf9
  v9 := Tryz.zeroValue9
  t20 := Tryz.underlying20
  a20 := Tryz.isAgg20
  z20 := Tryz.sizeOf20
  v20 := Tryz.zeroValue20
  t22 := Tryz.underlying44
  a22 := Tryz.isAgg44
  z22 := Tryz.sizeOf44
  v22 := Tryz.zeroValue44 }
theorem GrowI_c (n : Nat) (w : World) (hn : n ≤ 1048577) :
    Calls Tryz.prog 106 #[.slice none 0 0, .int .i64 n] w fun e w' => ∃ r, e = .returned r ∧ E0 w w' ∧ Own w' w.heap.size 3 1 r (([] : List Int).map encI) := by
  by_cases h0 : n = 0
  · subst h0
    refine (Any8.slices_Grow_room growL none 0 0 0 w (by omega) (by omega) (by omega) (by omega)).mono fun e w' ⟨h1, h2⟩ => ?_
    subst h2
    exact ⟨_, h1, Ext.refl _ _, Own.nil _ _ _ _⟩
  · obtain ⟨-, ⟨i, hi, hsz, hb, zv, hz, hc⟩, -, -⟩ := elemI
    refine (Any8.slices_Grow_grow growL i zv hi hz (by omega) none 0 0 n [] w (by omega) (by omega) (by rw [hb]; omega) (by omega) (by simp) (fun _ => rfl) (by simp)).mono fun e w' ⟨h1, h2⟩ => ?_
    have hcz : zv.cells.size = 1 := by rw [hc]; rfl
    subst h2
    rw [Nat.zero_add] at h1 ⊢
    have hge := grownCap_ge w n 0 (growR.t 25)
    have hle := grownCap_le_maxLen w n 0 (growR.t 25) (by unfold maxLen; omega)
    refine ⟨_, h1, (E0.alloc w _).drawn (w.drawn + 1), ⟨⟨by simp, .inr ⟨w.heap.size, _, _, rfl, Nat.le_refl _, heap_alloc_new _ _, Nat.zero_le _, hle, ?_, rfl⟩⟩, by intro l hl; simp at hl⟩⟩
    simp only [Builtin.zeroCells, Array.size_append, Array.size_map, Array.size_range, hcz]
    simp
    omega

end Go.Proofs.YtpddilkonkkppaaGreatDoor

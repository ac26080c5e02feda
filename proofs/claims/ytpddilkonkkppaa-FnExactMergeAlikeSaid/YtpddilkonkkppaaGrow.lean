/- Numbers joined. -/
import Derived.Test.YtpddilkonkkppaaRows
import Derived.Test.YtpddilkonkkppaaMerge9
import Derived.Shelf.Spec.SlicesGrow
namespace Go.Proofs.Ytpddilkonkkppaa
open Go Go.X Go.Proofs Go.ChangeShapes Go.WideShapes Go.ChangeAt Go.RowKit
open Go.ChangeMaps (open_string shut_string)
set_option maxHeartbeats 1000000
set_option maxRecDepth 20000
set_option linter.unusedVariables false
set_option linter.unusedSimpArgs false
def growR : Go.Shelf.Ren := ⟨fun | 4 => 66 | n => n, fun | 20 => 20 | 22 => 32 | 25 => 3 | 0 => 0 | 3 => 3 | 4 => 4 | 9 => 9 | n => n, fun n => n⟩
theorem growL : Go.Proofs.Lays8.n4 Try.prog growR := {
  mixed := by kernel_rfl
  f4 := ⟨Try.f66.name, by kernel_rfl, Try.func66.trans (congrArg some (by kernel_rfl))⟩
  t0 := Try.underlying0
  a0 := Try.isAgg0
  z0 := Try.sizeOf0
  v0 := Try.zeroValue0
  t3 := Try.underlying3
  a3 := Try.isAgg3
  z3 := Try.sizeOf3
  v3 := Try.zeroValue3
  t4 := Try.underlying4
  a4 := Try.isAgg4
  z4 := Try.sizeOf4
  v4 := Try.zeroValue4
  t9 := Try.underlying9
  a9 := Try.isAgg9
  z9 := Try.sizeOf9
  v9 := Try.zeroValue9
  t20 := Try.underlying20
  a20 := Try.isAgg20
  z20 := Try.sizeOf20
  v20 := Try.zeroValue20
  t22 := Try.underlying32
  a22 := Try.isAgg32
  z22 := Try.sizeOf32
  v22 := Try.zeroValue32 }
theorem GrowI_c (n : Nat) (w : World) (hn : n ≤ 1048577) :
    Calls Try.prog 66 #[.slice none 0 0, .int .i64 n] w fun e w' => ∃ r, e = .returned r ∧ E0 w w' ∧ Own w' w.heap.size 3 1 r (([] : List Int).map encI) := by
  by_cases h0 : n = 0
  · subst h0
    refine (Any8.slices_Grow_room growL none 0 0 0 w (by omega) (by omega) (by omega) (by omega)).mono fun e w' ⟨h1, h2⟩ => ?_
    subst h2
    exact ⟨_, h1, Ext.refl _ _, Own.nil _ _ _ _⟩
  · obtain ⟨-, ⟨i, hi, hsz, hb, zv, hz, hc⟩, -, -⟩ := elemI
    refine (Any8.slices_Grow_grow growL i zv hi hz (by omega) none 0 0 n [] w (by omega) (by omega) (by rw [hb]; omega) (by omega) (by simp) (fun _ => rfl) (by simp)).mono fun e w' ⟨h1, h2⟩ => ?_
    have hcz : zv.cells.size = 1 := by rw [hc]; rfl
    subst h2
    rw [Nat.zero_add] at h1 ⊢
    have hge := grownCap_ge w n 0 (growR.t 25)
    have hle := grownCap_le_maxLen w n 0 (growR.t 25) (by unfold maxLen; omega)
    refine ⟨_, h1, (E0.alloc w _).drawn (w.drawn + 1), ⟨⟨by simp, .inr ⟨w.heap.size, _, _, rfl, Nat.le_refl _, heap_alloc_new _ _, Nat.zero_le _, hle, ?_, rfl⟩⟩, by intro l hl; simp at hl⟩⟩
    simp only [Builtin.zeroCells, Array.size_append, Array.size_map, Array.size_range, hcz]
    simp
    omega

end Go.Proofs.Ytpddilkonkkppaa

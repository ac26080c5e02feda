/- The texts of numbers. -/
import Derived.Test.YtpddilkonkkppaaGreatDoorRows
import Derived.Test.YtpddilkonkkppaaGreatDoorBase
import Derived.Test.YtpddilkonkkppaaGreatDoorShelf
namespace Go.Proofs.YtpddilkonkkppaaGreatDoor
open Go Go.X Go.Proofs Go.ChangeShapes Go.WideShapes Go.ChangeAt Go.RowKit
open Go.ChangeMaps (open_string shut_string)
set_option maxHeartbeats 1000000
set_option maxRecDepth 20000
set_option linter.unusedVariables false
set_option linter.unusedSimpArgs false
abbrev Tab (w : World) : Prop := Lib.TabIs Tryz.prog w "internal/strconv.uint64pow10" .u64 Lib.pow10Tab
theorem itoa_c (n : Int) (w : World) (h : I64 n) (ht : Tab w) : Calls Tryz.prog 95 #[.int .i64 n] w fun e w' => e = .returned (.string (numS n)) ∧ E0 w w' :=
  (Tryz.strconv_Itoa n h.1 h.2 w ht).mono fun e w' h => ⟨h.1, E0.grow h.2⟩
theorem text_c (n : Int) (w : World) (h : I64 n) (ht : Tab w) : Calls Tryz.prog 71 #[.int .i64 n] w fun e w' => e = .returned (.string (numS n)) ∧ E0 w w' := by
  refine enterK Non 5 Tryz.func71 rfl rfl rfl fun K hK => ?_
  repeat (any_goals (
    conv => whnf
    first
    | ((with_reducible refine callF (g := 95) ?_ ?_); kernel_rfl; refine ⟨_, itoa_c _ _ h ht, ?_⟩; intro w4 e4; have z4 := cutLe e4)
    | ((with_reducible refine BIF.dec ?_ ?_) <;> intro _)
    | ((with_reducible refine BIF.s ?_ ?_) <;> intro _)
    | (with_reducible refine NEXTK.normal ?_)
    | (with_reducible refine NEXTK.ret ?_)
    | (with_reducible refine NEXTK.exit ?_)
    | (with_reducible refine SEQ.plain ?_)
    | (with_reducible refine hK _ _ ?_)
    | ((with_reducible refine RUNL.agg (fun _ => ?_) ?_); (focus kernel_rfl))
    | (with_reducible refine RUNL.run ?_)
    | ((with_reducible refine AR.ok ?_ ?_); exact ⟨by first | omega | (dsimp only; omega), by first | omega | (dsimp only; omega)⟩)
    | (with_reducible refine AR.wr ?_)
    | ((with_reducible intro w3 e3); try have z3 := cutLe e3)
    | ((with_reducible intro h3); have h4 := Nat.le_of_lt h3; clear h4)))
  all_goals
    intro hx
    exact ⟨rfl, hx⟩
theorem l1Num_c (n : Nat) : n ≤ 9223372036854775807 → ∀ w : World, Calls Tryz.prog 66 #[.int .i64 n] w fun e w' => e = .returned (.string (numS n)) ∧ E0 w w' := by
  induction n using Nat.strongRecOn with
  | _ n ih =>
    intro hn w
    refine enterK Non 25 Tryz.func66 rfl rfl rfl fun K hK => ?_
    by_cases h10 : n < 10
    · repeat (any_goals (
        conv => whnf
        first
        | ((with_reducible refine BIF.dec ?_ ?_) <;> intro _)
        | ((exfalso; omega))
        | ((with_reducible refine OBL.mk ?_ (fun _ => ?_)); (focus (exact ⟨by omega, by omega, by show (n : Int) + 1 ≤ 10; omega⟩)))
        | ((with_reducible refine BIF.dec ?_ ?_) <;> intro _)
        | ((with_reducible refine BIF.s ?_ ?_) <;> intro _)
        | (with_reducible refine NEXTK.normal ?_)
        | (with_reducible refine NEXTK.ret ?_)
        | (with_reducible refine NEXTK.exit ?_)
        | (with_reducible refine SEQ.plain ?_)
        | (with_reducible refine hK _ _ ?_)
        | ((with_reducible refine RUNL.agg (fun _ => ?_) ?_); (focus kernel_rfl))
        | (with_reducible refine RUNL.run ?_)
        | ((with_reducible refine AR.ok ?_ ?_); exact ⟨by first | omega | (dsimp only; omega), by first | omega | (dsimp only; omega)⟩)
        | (with_reducible refine AR.wr ?_)
        | ((with_reducible intro w3 e3); try have z3 := cutLe e3)
        | ((with_reducible intro h3); have h4 := Nat.le_of_lt h3; clear h4)))
      all_goals
        intro hx
        refine ⟨?_, hx⟩
        show Ending.returned (.string (digS.extract (n : Int).toNat ((n : Int) + 1).toNat)) = _
        rw [show (n : Int).toNat = n from by omega, show ((n : Int) + 1).toNat = n + 1 from by omega, digS_at h10, numS_small h10]
    · have hq : (n : Int).tdiv 10 = ((n / 10 : Nat) : Int) := by rw [Int.tdiv_eq_ediv_of_nonneg (by omega)]; omega
      have hr : (n : Int).tmod 10 = ((n % 10 : Nat) : Int) := by rw [Int.tmod_eq_emod_of_nonneg (by omega)]; omega
      have ihq : ∀ w, Calls Tryz.prog 66 #[.int .i64 ((n : Int).tdiv 10)] w fun e w' => e = .returned (.string (numS ((n / 10 : Nat) : Int))) ∧ E0 w w' := fun w => by rw [hq]; exact ih (n / 10) (by omega) (by omega) w
      have hd : digS.extract ((n : Int).tmod 10).toNat ((n : Int).tmod 10 + 1).toNat = ⟨#[UInt8.ofNat (48 + n % 10)]⟩ := by
        rw [hr, show ((n % 10 : Nat) : Int).toNat = n % 10 from by omega, show (((n % 10 : Nat) : Int) + 1).toNat = n % 10 + 1 from by omega, digS_at (Nat.mod_lt _ (by omega))]
      have hs := numS_size (n := ((n / 10 : Nat) : Int)) (by omega) (by omega)
      have hm : 0 ≤ (n : Int).tmod 10 ∧ (n : Int).tmod 10 ≤ 9 := by rw [hr]; omega
      repeat (any_goals (
        conv => whnf
        first
        | ((with_reducible refine BIF.dec ?_ ?_) <;> intro _)
        | ((exfalso; omega))
        | ((with_reducible refine DRAW.quietE ?_ ?_ ?_); kernel_rfl; kernel_rfl)
        | ((with_reducible refine callQ (g := 66) ?_ ?_); kernel_rfl; refine ⟨_, fun w' _ => ihq w', ?_⟩)
        | ((with_reducible refine OBL.mk (o := ((10 : Int) ≠ 0)) ?_ (fun _ => ?_)); (focus decide))
        | ((with_reducible refine OBL.mk ?_ (fun _ => ?_)); (focus (exact ⟨by omega, by omega, by show (n : Int).tmod 10 + 1 ≤ 10; omega⟩)))
        | ((with_reducible refine OBL.mk ?_ (fun _ => ?_)); (focus (show (((numS ((n / 10 : Nat) : Int)).size + (digS.extract ((n : Int).tmod 10).toNat ((n : Int).tmod 10 + 1).toNat).size : Nat) : Int) ≤ _; rw [hd]; show (((numS ((n / 10 : Nat) : Int)).size + 1 : Nat) : Int) ≤ _; omega)))
        | ((with_reducible refine BIF.dec ?_ ?_) <;> intro _)
        | ((with_reducible refine BIF.s ?_ ?_) <;> intro _)
        | (with_reducible refine NEXTK.normal ?_)
        | (with_reducible refine NEXTK.ret ?_)
        | (with_reducible refine NEXTK.exit ?_)
        | (with_reducible refine SEQ.plain ?_)
        | (with_reducible refine hK _ _ ?_)
        | ((with_reducible refine RUNL.agg (fun _ => ?_) ?_); (focus kernel_rfl))
        | (with_reducible refine RUNL.run ?_)
        | ((with_reducible refine AR.ok ?_ ?_); exact ⟨by first | omega | (dsimp only; omega), by first | omega | (dsimp only; omega)⟩)
        | (with_reducible refine AR.wr ?_)
        | ((with_reducible intro w3 e3); try have z3 := cutLe e3)
        | ((with_reducible intro h3); have h4 := Nat.le_of_lt h3; clear h4)))
      all_goals
        intro hx
        refine ⟨?_, hx⟩
        show Ending.returned (.string (numS ((n / 10 : Nat) : Int) ++ digS.extract ((n : Int).tmod 10).toNat ((n : Int).tmod 10 + 1).toNat)) = _
        rw [hd, numS_step h10]
theorem l1Num_z (n : Int) (w : World) (h : 0 ≤ n ∧ n ≤ 9223372036854775807) : Calls Tryz.prog 66 #[.int .i64 n] w fun e w' => e = .returned (.string (numS n)) ∧ E0 w w' := by
  obtain ⟨k, rfl⟩ : ∃ k : Nat, n = k := ⟨n.toNat, by omega⟩
  exact l1Num_c k (by omega) w

end Go.Proofs.YtpddilkonkkppaaGreatDoor

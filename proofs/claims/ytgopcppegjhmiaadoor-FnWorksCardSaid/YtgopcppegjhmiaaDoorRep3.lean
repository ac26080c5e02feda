/- Damages after repairs. -/
import Derived.Test.YtgopcppegjhmiaaDoorRows
import Derived.Test.YtgopcppegjhmiaaDoorRep2
namespace Go.Proofs.YtgopcppegjhmiaaDoor
open Go Go.X Go.Proofs Go.ChangeShapes Go.WideShapes Go.ChangeAt Go.RowKit
open Go.ChangeMaps (open_string shut_string)
set_option maxHeartbeats 1000000
set_option maxRecDepth 20000
set_option linter.unusedVariables false
set_option linter.unusedSimpArgs false
instance : Inhabited Dmg := ⟨⟨0, 0, 0, 0⟩⟩
def stepD (day : Int) (x : Dmg) (r : Rep) : Dmg := if r.fSheet = x.fSheet ∧ r.fDay ≤ day then after x r.fWork else x
def doneD (x : Dmg) (ys : List Rep) (day : Int) : Dmg := ys.foldl (stepD day) x
theorem stepD_ok {x : Dmg} (h : okD x = true) (day : Int) (r : Rep) : okD (stepD day x r) = true := by
  unfold stepD
  split
  · exact after_ok h _
  · exact h
theorem doneD_ok {x : Dmg} (h : okD x = true) (ys : List Rep) (day : Int) : okD (doneD x ys day) = true := by
  induction ys generalizing x with
  | nil => exact h
  | cons r t ih => exact ih (stepD_ok h day r)
theorem stepD_sheet (day : Int) (x : Dmg) (r : Rep) : (stepD day x r).fSheet = x.fSheet := by
  unfold stepD
  split
  · exact after_sheet _ _
  · rfl
theorem doneD_sheet (x : Dmg) (ys : List Rep) (day : Int) : (doneD x ys day).fSheet = x.fSheet := by
  induction ys generalizing x with
  | nil => rfl
  | cons r t ih => exact (ih _).trans (stepD_sheet _ _ _)
theorem doneD_at {x : Dmg} {ys : List Rep} {k : Nat} {r : Rep} (day : Int) (h : ys[k]? = some r) : doneD x (ys.take (k + 1)) day = stepD day (doneD x (ys.take k) day) r := by
  unfold doneD
  rw [List.take_add_one, h]; simp
theorem repaired_c (b : Option Addr) (m d : Nat) (x : Dmg) (ys : List Rep) (day : Int) (w : World) (hs : Row w b 3 (ys.map encRep)) (hm : ys.length = m) (hm1 : m ≤ 4611686018427387904) (hok : okD x = true) :
    Calls Tryd.prog 35 #[.agg (encDmg x).toArray, .slice b m d, .int .i64 day] w fun e w' => e = .returned (.agg (encDmg (doneD x ys day)).toArray) ∧ E0 w w' := by
  refine enterK Non 32 Tryd.func35 rfl rfl rfl fun K hK => ?_
  repeat (any_goals (
    conv => whnf
    first
    | ((with_reducible refine BIF.dec ?_ ?_) <;> intro _)
    | ((with_reducible refine BIF.s ?_ ?_) <;> intro _)
    | (with_reducible refine NEXTK.normal ?_)
    | (with_reducible refine NEXTK.ret ?_)
    | (with_reducible refine NEXTK.exit ?_)
    | (with_reducible refine SEQ.plain ?_)
    | (with_reducible refine hK _ _ ?_)
    | ((with_reducible refine RUNL.agg (fun _ => ?_) ?_); (focus kernel_rfl))
    | (with_reducible refine RUNL.run ?_)
    | ((with_reducible refine AR.ok ?_ ?_); exact ⟨by first | omega | (dsimp only; omega), by first | omega | (dsimp only; omega)⟩)
    | (with_reducible refine AR.wr ?_)
    | ((with_reducible intro w3 e3); try have z3 := cutLe e3)
    | ((with_reducible intro h3); have h4 := Nat.le_of_lt h3; clear h4)))
  conv => whnf
  refine LOOP.mkU (Nat × Dmg) (fun t => [(11, .v (.int .i64 t.1))]) (fun t => [(0, encDmg t.2)]) (fun t _ => t.1 ≤ m ∧ t.2 = doneD x (ys.take t.1) day) (fun t => m - t.1) (0, x) rfl ⟨rfl, trivial⟩ rfl ⟨Nat.zero_le _, rfl⟩ ?_
  rintro ⟨k, z⟩ wr ew ⟨hk, hz⟩
  simp only at hk hz
  have hzo : okD z = true := by rw [hz]; exact doneD_ok hok _ _
  conv => whnf
  repeat (first | ((with_reducible refine NEXTK.normal ?_); conv => whnf) | ((with_reducible refine NEXTK.exit ?_); conv => whnf) | ((with_reducible refine NEXTK.ret ?_); conv => whnf) | ((with_reducible refine SEQ.plain ?_); conv => whnf) | ((with_reducible refine AR.ok ?_ ?_); exact ⟨by omega, by omega⟩; conv => whnf))
  refine BIF.dec (fun hlt => ?_) (fun hlt => ?_)
  · have hlt' : k < ys.length := by simp only at hlt; omega
    have his := hs.isSome (by simp; omega)
    obtain ⟨r, hr⟩ : ∃ r, ys[k]? = some r := ⟨ys[k]'(by omega), by simp⟩
    have hst := doneD_at (x := x) day hr
    rw [← hz] at hst
    repeat (any_goals (
      conv => whnf
      first
      | ((with_reducible refine OBL.mk ?_ (fun _ => ?_)); exact ⟨by first | omega | (dsimp only; omega), by first | omega | (dsimp only; omega), his⟩)
      | ((with_reducible refine ELD.at (k) hs ?_ ?_ ?_ (fun x' hx' => ?_)); exact mAddr_Non _; (first | rfl | omega); exact hlt'; obtain rfl : r = x' := by (rw [hr] at hx'; exact Option.some.inj hx'))
      | ((with_reducible refine callF (g := 60) ?_ ?_); kernel_rfl; refine ⟨_, after_c z _ _ hzo, ?_⟩; intro w4 e4; have z4 := cutLe e4)
      | ((with_reducible refine BIF.dec ?_ ?_) <;> intro _)
      | ((with_reducible refine BIF.s ?_ ?_) <;> intro _)
      | (with_reducible refine NEXTK.normal ?_)
      | (with_reducible refine NEXTK.ret ?_)
      | (with_reducible refine NEXTK.exit ?_)
      | (with_reducible refine SEQ.plain ?_)
      | (with_reducible refine hK _ _ ?_)
      | ((with_reducible refine RUNL.agg (fun _ => ?_) ?_); (focus kernel_rfl))
      | (with_reducible refine RUNL.run ?_)
      | ((with_reducible refine AR.ok ?_ ?_); exact ⟨by first | omega | (dsimp only; omega), by first | omega | (dsimp only; omega)⟩)
      | (with_reducible refine AR.wr ?_)
      | ((with_reducible intro w3 e3); try have z3 := cutLe e3)
      | ((with_reducible intro h3); have h4 := Nat.le_of_lt h3; clear h4)))
    all_goals first
      | (refine ⟨(k + 1, after z r.fWork), rfl, ⟨rfl, trivial⟩, rfl, rfl, ⟨by simp only; omega, ?_⟩, by simp only; omega⟩
         simp only
         rw [hst, stepD, if_pos (by simp_all)])
      | (refine ⟨(k + 1, z), rfl, ⟨rfl, trivial⟩, rfl, rfl, ⟨by simp only; omega, ?_⟩, by simp only; omega⟩
         simp only
         rw [hst, stepD, if_neg (by clear hK; simp_all <;> omega)])
  · have hkn : k = ys.length := by simp only at hlt; omega
    repeat (any_goals (
      conv => whnf
      first
      | ((with_reducible refine BIF.dec ?_ ?_) <;> intro _)
      | ((with_reducible refine BIF.s ?_ ?_) <;> intro _)
      | (with_reducible refine NEXTK.normal ?_)
      | (with_reducible refine NEXTK.ret ?_)
      | (with_reducible refine NEXTK.exit ?_)
      | (with_reducible refine SEQ.plain ?_)
      | (with_reducible refine hK _ _ ?_)
      | ((with_reducible refine RUNL.agg (fun _ => ?_) ?_); (focus kernel_rfl))
      | (with_reducible refine RUNL.run ?_)
      | ((with_reducible refine AR.ok ?_ ?_); exact ⟨by first | omega | (dsimp only; omega), by first | omega | (dsimp only; omega)⟩)
      | (with_reducible refine AR.wr ?_)
      | ((with_reducible intro w3 e3); try have z3 := cutLe e3)
      | ((with_reducible intro h3); have h4 := Nat.le_of_lt h3; clear h4)))
    intro hx
    refine ⟨?_, hx⟩
    rw [List.take_of_length_le (by omega)] at hz
    rw [← hz]; rfl
theorem l22On_c (b : Option Addr) (m d : Nat) (x : Dmg) (ys : List Rep) (day : Int) (w : World) (hs : Row w b 3 (ys.map encRep)) (hm : ys.length = m) (hm1 : m ≤ 4611686018427387904) (hok : okD x = true) (hw : ∀ r ∈ ys, 1 ≤ r.fWork ∧ r.fWork ≤ 4) :
    Calls Tryd.prog 41 #[.agg (encDmg x).toArray, .slice b m d, .int .i64 day] w fun e w' => e = .returned (.agg (encDmg (doneD x ys day)).toArray) ∧ E0 w w' := by
  refine enterK Non 39 Tryd.func41 rfl rfl rfl fun K hK => ?_
  repeat (any_goals (
    conv => whnf
    first
    | ((with_reducible refine BIF.dec ?_ ?_) <;> intro _)
    | ((with_reducible refine BIF.s ?_ ?_) <;> intro _)
    | (with_reducible refine NEXTK.normal ?_)
    | (with_reducible refine NEXTK.ret ?_)
    | (with_reducible refine NEXTK.exit ?_)
    | (with_reducible refine SEQ.plain ?_)
    | (with_reducible refine hK _ _ ?_)
    | ((with_reducible refine RUNL.agg (fun _ => ?_) ?_); (focus kernel_rfl))
    | (with_reducible refine RUNL.run ?_)
    | ((with_reducible refine AR.ok ?_ ?_); exact ⟨by first | omega | (dsimp only; omega), by first | omega | (dsimp only; omega)⟩)
    | (with_reducible refine AR.wr ?_)
    | ((with_reducible intro w3 e3); try have z3 := cutLe e3)
    | ((with_reducible intro h3); have h4 := Nat.le_of_lt h3; clear h4)))
  conv => whnf
  refine LOOP.mkU (Nat × Dmg) (fun t => [(7, .v (.int .i64 t.1))]) (fun t => [(0, encDmg t.2)]) (fun t _ => t.1 ≤ m ∧ t.2 = doneD x (ys.take t.1) day) (fun t => m - t.1) (0, x) rfl ⟨rfl, trivial⟩ rfl ⟨Nat.zero_le _, rfl⟩ ?_
  rintro ⟨k, z⟩ wr ew ⟨hk, hz⟩
  simp only at hk hz
  have hzo : okD z = true := by rw [hz]; exact doneD_ok hok _ _
  conv => whnf
  repeat (first | ((with_reducible refine NEXTK.normal ?_); conv => whnf) | ((with_reducible refine NEXTK.exit ?_); conv => whnf) | ((with_reducible refine NEXTK.ret ?_); conv => whnf) | ((with_reducible refine SEQ.plain ?_); conv => whnf) | ((with_reducible refine AR.ok ?_ ?_); exact ⟨by omega, by omega⟩; conv => whnf))
  refine BIF.dec (fun hlt => ?_) (fun hlt => ?_)
  · have hlt' : k < ys.length := by simp only at hlt; omega
    have his := hs.isSome (by simp; omega)
    obtain ⟨r, hr⟩ : ∃ r, ys[k]? = some r := ⟨ys[k]'(by omega), by simp⟩
    have hst := doneD_at (x := x) day hr
    rw [← hz] at hst
    have hrw := hw r (List.mem_of_getElem? hr)
    conv => whnf
    repeat (first | ((with_reducible refine NEXTK.normal ?_); conv => whnf) | ((with_reducible refine NEXTK.exit ?_); conv => whnf) | ((with_reducible refine NEXTK.ret ?_); conv => whnf) | ((with_reducible refine SEQ.plain ?_); conv => whnf) | ((with_reducible refine AR.ok ?_ ?_); exact ⟨by omega, by omega⟩; conv => whnf))
    refine DRAW.quiet (by kernel_rfl) (by kernel_rfl) ?_
    repeat (any_goals (
      conv => whnf
      first
      | ((with_reducible refine OBL.mk ?_ (fun _ => ?_)); exact ⟨by first | omega | (dsimp only; omega), by first | omega | (dsimp only; omega), his⟩)
      | ((with_reducible refine ELD.at (k) hs ?_ ?_ ?_ (fun x' hx' => ?_)); exact mAddr_Non _; (first | rfl | omega); exact hlt'; obtain rfl : r = x' := by (rw [hr] at hx'; exact Option.some.inj hx'))
      | ((with_reducible refine DRAW.plan (id := 5) (.one 1 (.one 2 (.one 3 (.one 4 (.start (.alt 0 (.start (.alt 5 (.start (.alt 6 (.start (.alt 7 .done .stop)) .stop)) .stop)) (.alt 5 (.start (.alt 0 (.start (.alt 6 (.start (.alt 7 .done .stop)) .stop)) .stop)) .stop))))))) ?_ ?_ ?_ ?_); kernel_rfl; kernel_rfl; kernel_rfl)
      | (with_reducible refine And.intro ?_ ?_)
      | (exact True.intro)
      | ((with_reducible refine callF (g := 63) ?_ ?_); kernel_rfl; refine ⟨_, l22Do_c z _ _ hzo hrw, ?_⟩; intro w4 e4; have z4 := cutLe e4)
      | ((with_reducible refine BIF.dec ?_ ?_) <;> intro _)
      | ((with_reducible refine BIF.s ?_ ?_) <;> intro _)
      | (with_reducible refine NEXTK.normal ?_)
      | (with_reducible refine NEXTK.ret ?_)
      | (with_reducible refine NEXTK.exit ?_)
      | (with_reducible refine SEQ.plain ?_)
      | (with_reducible refine hK _ _ ?_)
      | ((with_reducible refine RUNL.agg (fun _ => ?_) ?_); (focus kernel_rfl))
      | (with_reducible refine RUNL.run ?_)
      | ((with_reducible refine AR.ok ?_ ?_); exact ⟨by first | omega | (dsimp only; omega), by first | omega | (dsimp only; omega)⟩)
      | (with_reducible refine AR.wr ?_)
      | ((with_reducible intro w3 e3); try have z3 := cutLe e3)
      | ((with_reducible intro h3); have h4 := Nat.le_of_lt h3; clear h4)))
    all_goals first
      | (refine ⟨(k + 1, after z r.fWork), rfl, ⟨rfl, trivial⟩, rfl, rfl, ⟨by simp only; omega, ?_⟩, by simp only; omega⟩
         simp only
         rw [hst, stepD, if_pos (by simp_all)])
      | (refine ⟨(k + 1, z), rfl, ⟨rfl, trivial⟩, rfl, rfl, ⟨by simp only; omega, ?_⟩, by simp only; omega⟩
         simp only
         rw [hst, stepD, if_neg (by clear hK; simp_all <;> omega)])
  · have hkn : k = ys.length := by simp only at hlt; omega
    repeat (any_goals (
      conv => whnf
      first
      | ((with_reducible refine BIF.dec ?_ ?_) <;> intro _)
      | ((with_reducible refine BIF.s ?_ ?_) <;> intro _)
      | (with_reducible refine NEXTK.normal ?_)
      | (with_reducible refine NEXTK.ret ?_)
      | (with_reducible refine NEXTK.exit ?_)
      | (with_reducible refine SEQ.plain ?_)
      | (with_reducible refine hK _ _ ?_)
      | ((with_reducible refine RUNL.agg (fun _ => ?_) ?_); (focus kernel_rfl))
      | (with_reducible refine RUNL.run ?_)
      | ((with_reducible refine AR.ok ?_ ?_); exact ⟨by first | omega | (dsimp only; omega), by first | omega | (dsimp only; omega)⟩)
      | (with_reducible refine AR.wr ?_)
      | ((with_reducible intro w3 e3); try have z3 := cutLe e3)
      | ((with_reducible intro h3); have h4 := Nat.le_of_lt h3; clear h4)))
    intro hx
    refine ⟨?_, hx⟩
    rw [List.take_of_length_le (by omega)] at hz
    rw [← hz]; rfl

end Go.Proofs.YtgopcppegjhmiaaDoor

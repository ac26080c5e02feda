/- Sorts of frames. -/
import Derived.Test.YthgeeocmhdpgiaaDoorRows
import Derived.Test.YthgeeocmhdpgiaaDoorFrames4
namespace Go.Proofs.YthgeeocmhdpgiaaDoor
open Go Go.X Go.Proofs Go.ChangeShapes Go.WideShapes Go.ChangeAt Go.RowKit
open Go.ChangeMaps (open_string shut_string)
set_option maxHeartbeats 1000000
set_option maxRecDepth 20000
set_option linter.unusedVariables false
set_option linter.unusedSimpArgs false
theorem filt_take {p : Frm → Bool} {xs : List Frm} {k : Nat} {x : Frm} (h : xs[k]? = some x) : (xs.take (k + 1)).filter p = (xs.take k).filter p ++ (if p x then [x] else []) := by
  rw [List.take_add_one, h, List.filter_append]
  by_cases hp : p x = true <;> simp [hp]
theorem filt_none {p : Frm → Bool} {xs : List Frm} (h : ∀ x ∈ xs, p x = false) : xs.filter (fun x => !p x) = xs := by
  rw [List.filter_eq_self]
  intro x hx
  simp [h x hx]
theorem DeleteFuncFrm_c (p : Frm → Bool) (lo : Nat) (a : Option Addr) (n c : Nat) (xs : List Frm) (f : FuncId) (cap : Array Value) (w : World) (ho : Own w lo 26 5 (.slice a n c) (xs.map encFrm)) (hn : xs.length = n) (hm : n ≤ 1048577) (hc : n ≤ c ∧ c < 9223372036854775808) (hb : hasBody Tryd.prog f = true)
    (hf : ∀ x ∈ xs, ∀ w', Ext (fun b => (Value.slice a n c).ownBlock = some b) w w' → Calls Tryd.prog f (#[].toList ++ [Value.agg (encFrm x).toArray] ++ cap.toList).toArray w' fun e w'' => e = .returned (.bool (p x)) ∧ E0 w' w'') :
    Calls Tryd.prog 52 #[.slice a n c, .func (.func f) #[] cap] w fun e w' => ∃ r, e = .returned r ∧ Ext (fun b => (Value.slice a n c).ownBlock = some b) w w' ∧ Own w' lo 26 5 r ((xs.filter fun x => !p x).map encFrm) := by
  refine enterK (fun b => (Value.slice a n c).ownBlock = some b) 42 Tryd.func52 rfl rfl rfl fun K hK => ?_
  repeat (any_goals (
    conv => whnf
    first
    | ((with_reducible refine BIF.dec ?_ ?_) <;> intro _)
    | ((with_reducible refine BIF.s ?_ ?_) <;> intro _)
    | (with_reducible refine NEXTK.normal ?_)
    | (with_reducible refine NEXTK.ret ?_)
    | (with_reducible refine NEXTK.exit ?_)
    | (with_reducible refine SEQ.plain ?_)
    | (with_reducible refine hK _ _ ?_)
    | ((with_reducible refine RUNL.agg (fun _ => ?_) ?_); (focus kernel_rfl))
    | (with_reducible refine RUNL.run ?_)
    | ((with_reducible refine AR.ok ?_ ?_); exact ⟨by first | omega | (dsimp only; omega), by first | omega | (dsimp only; omega)⟩)
    | (with_reducible refine AR.wr ?_)
    | ((with_reducible intro w3 e3); try have z3 := cutLe e3)
    | ((with_reducible intro h3); have h4 := Nat.le_of_lt h3; clear h4)))
  conv => whnf
  refine callF (g := 72) (by kernel_rfl) ⟨_, IndexFuncFrm_c p _ _ _ xs _ _ _ ho.row.1 hn (by omega) hb (fun x hx w' e => hf x hx w' (Ext.of0 e)), fun w4 e4 => ?_⟩
  replace ho := ho.e0 e4
  rcases idxP_spec p xs with ⟨hi, hno⟩ | ⟨k, x0, hi, hk, hx0, hp0, hno⟩
  · repeat (any_goals (
      conv => whnf
      first
      | ((with_reducible refine BIF.beq ?_ ?_) <;> intro _)
      | ((exfalso; omega))
      | ((with_reducible refine BIF.dec ?_ ?_) <;> intro _)
      | ((with_reducible refine BIF.s ?_ ?_) <;> intro _)
      | (with_reducible refine NEXTK.normal ?_)
      | (with_reducible refine NEXTK.ret ?_)
      | (with_reducible refine NEXTK.exit ?_)
      | (with_reducible refine SEQ.plain ?_)
      | (with_reducible refine hK _ _ ?_)
      | ((with_reducible refine RUNL.agg (fun _ => ?_) ?_); (focus kernel_rfl))
      | (with_reducible refine RUNL.run ?_)
      | ((with_reducible refine AR.ok ?_ ?_); exact ⟨by first | omega | (dsimp only; omega), by first | omega | (dsimp only; omega)⟩)
      | (with_reducible refine AR.wr ?_)
      | ((with_reducible intro w3 e3); try have z3 := cutLe e3)
      | ((with_reducible intro h3); have h4 := Nat.le_of_lt h3; clear h4)))
    intro hx'
    rw [filt_none hno]
    exact ⟨_, rfl, hx', ho⟩
  · obtain ⟨g, rfl⟩ := ho.base (by omega)
    have hbk : ∀ b, g = b → (Value.slice (some ⟨g, 0, none⟩) n c).ownBlock = some b := fun b h => by subst h; rfl
    have hfk : (xs.take (k + 1)).filter (fun x => !p x) = xs.take k := by
      rw [filt_take hx0]
      have : (xs.take k).filter (fun x => !p x) = xs.take k := filt_none fun y hy => by
        obtain ⟨j, hj⟩ := List.getElem?_of_mem hy
        have hjk : j < k := by
          have := (List.getElem?_eq_some_iff.1 hj).1
          simp at this; omega
        rw [List.getElem?_take, if_pos hjk] at hj
        exact hno j y hjk hj
      rw [this]; simp [hp0]
    repeat (any_goals (
      conv => whnf
      first
      | ((with_reducible refine BIF.beq ?_ ?_) <;> intro _)
      | ((exfalso; omega))
      | ((with_reducible refine BIF.dec ?_ ?_) <;> intro _)
      | ((with_reducible refine BIF.s ?_ ?_) <;> intro _)
      | (with_reducible refine NEXTK.normal ?_)
      | (with_reducible refine NEXTK.ret ?_)
      | (with_reducible refine NEXTK.exit ?_)
      | (with_reducible refine SEQ.plain ?_)
      | (with_reducible refine hK _ _ ?_)
      | ((with_reducible refine RUNL.agg (fun _ => ?_) ?_); (focus kernel_rfl))
      | (with_reducible refine RUNL.run ?_)
      | ((with_reducible refine AR.ok ?_ ?_); exact ⟨by first | omega | (dsimp only; omega), by first | omega | (dsimp only; omega)⟩)
      | (with_reducible refine AR.wr ?_)
      | ((with_reducible intro w3 e3); try have z3 := cutLe e3)
      | ((with_reducible intro h3); have h4 := Nat.le_of_lt h3; clear h4)))
    conv => whnf
    refine LOOP.mk (Nat × Nat × List Frm) (fun t => [(6, .v (.int .i64 (t.1 : Int))), (5, .v (.int .i64 (t.2.1 : Int)))])
      (fun t wr => (t.2.1 < t.1 ∧ t.1 ≤ n) ∧ t.2.2.length = n ∧ t.2.2.take t.2.1 = (xs.take t.1).filter (fun x => !p x) ∧ t.2.2.drop t.1 = xs.drop t.1 ∧ Own wr lo 26 5 (.slice (some ⟨g, 0, none⟩) n c) (t.2.2.map encFrm)) (fun t => n - t.1) (k + 1, k, xs) rfl ⟨?_, ?_, trivial⟩ ⟨by simp only; omega, hn, hfk.symm, rfl, ho⟩ ?_
    · simp [lk, Nat.beq, hi]
    · simp [lk, Nat.beq, hi]
    rintro ⟨j, i, ls⟩ wr - ⟨⟨hij, hjn⟩, hln, htk, hdr, hown⟩
    simp only at hij hjn hln htk hdr hown
    have oL := fun k h => hown.block (k := k) h
    conv => whnf
    repeat (first | ((with_reducible refine NEXTK.normal ?_); conv => whnf) | ((with_reducible refine NEXTK.exit ?_); conv => whnf) | ((with_reducible refine NEXTK.ret ?_); conv => whnf) | ((with_reducible refine SEQ.plain ?_); conv => whnf) | ((with_reducible refine AR.ok ?_ ?_); exact ⟨by omega, by omega⟩; conv => whnf))
    refine BIF.dec (fun hlt => ?_) (fun hlt => ?_)
    · have hlt' : j < ls.length := by simp only at hlt; omega
      have his := hown.row.1.isSome (by simp; omega)
      obtain ⟨x, hx⟩ : ∃ x, ls[j]? = some x := ⟨ls[j]'(by omega), by simp⟩
      have hxs : xs[j]? = some x := by
        have e1 : ls[j]? = (ls.drop j)[0]? := by simp
        have e2 : xs[j]? = (xs.drop j)[0]? := by simp
        rw [e2, ← hdr, ← e1, hx]
      have hxm := List.mem_of_getElem? hxs
      have hft := filt_take (p := fun x => !p x) hxs
      have hdr' : ∀ ms : List Frm, ms.drop j = xs.drop j → ms.drop (j + 1) = xs.drop (j + 1) := fun ms h => by
        rw [← List.drop_drop, ← List.drop_drop (l := xs), h]
      obtain ⟨y, hy⟩ : ∃ y, ls[i]? = some y := ⟨ls[i]'(by omega), by simp⟩
      cases hpx : p x with
      | true =>
        repeat (any_goals (
          conv => whnf
          first
          | ((with_reducible refine OBL.mk ?_ (fun _ => ?_)); exact ⟨by first | omega | (dsimp only; omega), by first | omega | (dsimp only; omega), his⟩)
          | ((with_reducible refine ELD.atNow (enc := encFrm) (xs := ls) (j) hown.row.1 ?_ ?_ (fun x' hx' => ?_)); (first | rfl | omega); omega; obtain rfl : x = x' := by (rw [hx] at hx'; exact Option.some.inj hx'))
          | ((with_reducible intro w3 e3); have z3 := cutLe e3; replace hown := hown.ext e3 (by first | exact fun _ _ h => h | (intro k hk h; have hh := oL k hk; simp only [bk] at h; omega)))
          | ((with_reducible refine callX (g := f) ?_ ?_); exact hb; intro hX; refine ⟨_, hf x hxm _ hX, ?_⟩; intro w5 e5; have z5 := cutLe e5; replace hown := hown.e0 e5)
          | ((with_reducible refine BIF.s ?_ ?_) <;> intro hbad)
          | ((exfalso; rw [hpx] at hbad; exact absurd hbad (by decide)))
          | ((with_reducible refine BIF.dec ?_ ?_) <;> intro _)
          | ((with_reducible refine BIF.s ?_ ?_) <;> intro _)
          | (with_reducible refine NEXTK.normal ?_)
          | (with_reducible refine NEXTK.ret ?_)
          | (with_reducible refine NEXTK.exit ?_)
          | (with_reducible refine SEQ.plain ?_)
          | (with_reducible refine hK _ _ ?_)
          | ((with_reducible refine RUNL.agg (fun _ => ?_) ?_); (focus kernel_rfl))
          | (with_reducible refine RUNL.run ?_)
          | ((with_reducible refine AR.ok ?_ ?_); exact ⟨by first | omega | (dsimp only; omega), by first | omega | (dsimp only; omega)⟩)
          | (with_reducible refine AR.wr ?_)
          | ((with_reducible intro w3 e3); try have z3 := cutLe e3)
          | ((with_reducible intro h3); have h4 := Nat.le_of_lt h3; clear h4)))
        refine ⟨(j + 1, i, ls), rfl, ⟨rfl, rfl, trivial⟩, rfl, rfl, ⟨by simp only; omega, hln, ?_, hdr' ls hdr, hown⟩, by simp only; omega⟩
        rw [htk, hft]; simp [hpx]
      | false =>
        repeat (any_goals (
          conv => whnf
          first
          | ((with_reducible refine OBL.mk ?_ (fun _ => ?_)); exact ⟨by first | omega | (dsimp only; omega), by first | omega | (dsimp only; omega), his⟩)
          | ((with_reducible refine ELD.atNow (enc := encFrm) (xs := ls) (j) hown.row.1 ?_ ?_ (fun x' hx' => ?_)); (first | rfl | omega); omega; obtain rfl : x = x' := by (rw [hx] at hx'; exact Option.some.inj hx'))
          | ((with_reducible intro w3 e3); have z3 := cutLe e3; replace hown := hown.ext e3 (by first | exact fun _ _ h => h | (intro k hk h; have hh := oL k hk; simp only [bk] at h; omega)))
          | ((with_reducible refine callX (g := f) ?_ ?_); exact hb; intro hX; refine ⟨_, hf x hxm _ hX, ?_⟩; intro w5 e5; have z5 := cutLe e5; replace hown := hown.e0 e5)
          | ((with_reducible refine BIF.s ?_ ?_) <;> intro hbad)
          | ((exfalso; rw [hpx] at hbad; exact absurd hbad (by decide)))
          | ((with_reducible refine BIF.dec ?_ ?_) <;> intro _)
          | ((with_reducible refine BIF.s ?_ ?_) <;> intro _)
          | (with_reducible refine NEXTK.normal ?_)
          | (with_reducible refine NEXTK.ret ?_)
          | (with_reducible refine NEXTK.exit ?_)
          | (with_reducible refine SEQ.plain ?_)
          | (with_reducible refine hK _ _ ?_)
          | ((with_reducible refine RUNL.agg (fun _ => ?_) ?_); (focus kernel_rfl))
          | (with_reducible refine RUNL.run ?_)
          | ((with_reducible refine AR.ok ?_ ?_); exact ⟨by first | omega | (dsimp only; omega), by first | omega | (dsimp only; omega)⟩)
          | (with_reducible refine AR.wr ?_)
          | ((with_reducible intro w3 e3); try have z3 := cutLe e3)
          | ((with_reducible intro h3); have h4 := Nat.le_of_lt h3; clear h4)))
        conv => whnf
        refine stM (i := _) hown rfl rfl rfl i rfl (by rw [List.getElem?_map, hy]; rfl) (by decide) (fun _ h => h) ⟨fun h => by have := (oL _ h).2; dsimp only at this; omega, trivial⟩ (fun w6 e6 o6 => ?_)
        replace o6 : Own w6 lo 26 5 (.slice (some ⟨g, 0, none⟩) n c) ((ls.set i x).map encFrm) := by rw [List.map_set]; exact o6
        repeat (any_goals (
          conv => whnf
          first
          | ((with_reducible refine BIF.dec ?_ ?_) <;> intro _)
          | ((with_reducible refine BIF.s ?_ ?_) <;> intro _)
          | (with_reducible refine NEXTK.normal ?_)
          | (with_reducible refine NEXTK.ret ?_)
          | (with_reducible refine NEXTK.exit ?_)
          | (with_reducible refine SEQ.plain ?_)
          | (with_reducible refine hK _ _ ?_)
          | ((with_reducible refine RUNL.agg (fun _ => ?_) ?_); (focus kernel_rfl))
          | (with_reducible refine RUNL.run ?_)
          | ((with_reducible refine AR.ok ?_ ?_); exact ⟨by first | omega | (dsimp only; omega), by first | omega | (dsimp only; omega)⟩)
          | (with_reducible refine AR.wr ?_)
          | ((with_reducible intro w3 e3); try have z3 := cutLe e3)
          | ((with_reducible intro h3); have h4 := Nat.le_of_lt h3; clear h4)))
        refine ⟨(j + 1, i + 1, ls.set i x), rfl, ⟨rfl, rfl, trivial⟩, rfl, rfl, ⟨by simp only; omega, by simpa using hln, ?_, hdr' _ ?_, o6⟩, by simp only; omega⟩
        · simp only
          rw [hft, ← htk, List.take_add_one, List.getElem?_set_self (by omega), List.take_set_of_le (Nat.le_refl _)]
          simp [hpx]
        · rw [List.drop_set_of_lt hij, hdr]
    · have hjn' : j = n := by simp only at hlt; omega
      subst hjn'
      have hres : ls.take i = xs.filter (fun x => !p x) := by rw [htk, List.take_of_length_le (by omega)]
      have ocut := hown.cut i (by omega)
      rw [← List.map_take, hres] at ocut
      repeat (any_goals (
        conv => whnf
        first
        | ((with_reducible refine OBL.mk ?_ (fun _ => ?_)); (first | omega | (dsimp only; omega)))
        | ((with_reducible refine BIF.dec ?_ ?_) <;> intro _)
        | ((with_reducible refine BIF.s ?_ ?_) <;> intro _)
        | (with_reducible refine NEXTK.normal ?_)
        | (with_reducible refine NEXTK.ret ?_)
        | (with_reducible refine NEXTK.exit ?_)
        | (with_reducible refine SEQ.plain ?_)
        | (with_reducible refine hK _ _ ?_)
        | ((with_reducible refine RUNL.agg (fun _ => ?_) ?_); (focus kernel_rfl))
        | (with_reducible refine RUNL.run ?_)
        | ((with_reducible refine AR.ok ?_ ?_); exact ⟨by first | omega | (dsimp only; omega), by first | omega | (dsimp only; omega)⟩)
        | (with_reducible refine AR.wr ?_)
        | ((with_reducible intro w3 e3); try have z3 := cutLe e3)
        | ((with_reducible intro h3); have h4 := Nat.le_of_lt h3; clear h4)))
      conv => whnf
      refine clS elemFrm rfl (n := i) (cp := c) ocut (fun _ => ?_) (by simp only [Int.toNat_natCast]; omega) (fun b _ h => h) trivial (fun w7 e7 o7 => ?_)
      · rw [if_neg (by omega)]
        congr 2
      repeat (any_goals (
        conv => whnf
        first
        | ((with_reducible refine OBL.mk ?_ (fun _ => ?_)); (first | omega | (dsimp only; omega)))
        | ((with_reducible refine BIF.dec ?_ ?_) <;> intro _)
        | ((with_reducible refine BIF.s ?_ ?_) <;> intro _)
        | (with_reducible refine NEXTK.normal ?_)
        | (with_reducible refine NEXTK.ret ?_)
        | (with_reducible refine NEXTK.exit ?_)
        | (with_reducible refine SEQ.plain ?_)
        | (with_reducible refine hK _ _ ?_)
        | ((with_reducible refine RUNL.agg (fun _ => ?_) ?_); (focus kernel_rfl))
        | (with_reducible refine RUNL.run ?_)
        | ((with_reducible refine AR.ok ?_ ?_); exact ⟨by first | omega | (dsimp only; omega), by first | omega | (dsimp only; omega)⟩)
        | (with_reducible refine AR.wr ?_)
        | ((with_reducible intro w3 e3); try have z3 := cutLe e3)
        | ((with_reducible intro h3); have h4 := Nat.le_of_lt h3; clear h4)))
      intro hx'
      refine ⟨_, rfl, hx', ?_⟩
      have e0 := cut0 g c i 5
      simp only [resV]
      exact e0 ▸ o7
def cmp3 (a b : Int) : Int := if a < b then -1 else if b < a then 1 else 0
theorem isNaN_c (a : Int) (w : World) : Calls Tryd.prog 75 #[.int .i64 a] w fun e w' => e = .returned (.bool false) ∧ E0 w w' := by
  refine enterK Non 6 Tryd.func75 rfl rfl rfl fun K hK => ?_
  repeat (any_goals (
    conv => whnf
    first
    | ((with_reducible refine BIF.dec ?_ ?_) <;> intro _)
    | ((with_reducible refine BIF.s ?_ ?_) <;> intro _)
    | (with_reducible refine NEXTK.normal ?_)
    | (with_reducible refine NEXTK.ret ?_)
    | (with_reducible refine NEXTK.exit ?_)
    | (with_reducible refine SEQ.plain ?_)
    | (with_reducible refine hK _ _ ?_)
    | ((with_reducible refine RUNL.agg (fun _ => ?_) ?_); (focus kernel_rfl))
    | (with_reducible refine RUNL.run ?_)
    | ((with_reducible refine AR.ok ?_ ?_); exact ⟨by first | omega | (dsimp only; omega), by first | omega | (dsimp only; omega)⟩)
    | (with_reducible refine AR.wr ?_)
    | ((with_reducible intro w3 e3); try have z3 := cutLe e3)
    | ((with_reducible intro h3); have h4 := Nat.le_of_lt h3; clear h4)))
  intro hx
  refine ⟨?_, hx⟩
  simp [resV]
theorem Compare_c (a b : Int) (w : World) : Calls Tryd.prog 57 #[.int .i64 a, .int .i64 b] w fun e w' => e = .returned (.int .i64 (cmp3 a b)) ∧ E0 w w' := by
  refine enterK Non 20 Tryd.func57 rfl rfl rfl fun K hK => ?_
  repeat (any_goals (
    conv => whnf
    first
    | ((with_reducible refine callF (g := 75) ?_ ?_); kernel_rfl; refine ⟨_, isNaN_c _ _, ?_⟩; intro w4 e4; have z4 := cutLe e4)
    | ((with_reducible refine BIF.s (fun h => absurd h ?_) (fun _ => ?_)); focus (first | (simp; done) | (simp; omega)))
    | ((with_reducible refine BIF.s (fun _ => ?_) (fun h => absurd h ?_)); rotate_left; focus (first | (simp; done) | (simp; omega)))
    | ((with_reducible refine BIF.dec ?_ ?_) <;> intro _)
    | ((with_reducible refine BIF.s ?_ ?_) <;> intro _)
    | (with_reducible refine NEXTK.normal ?_)
    | (with_reducible refine NEXTK.ret ?_)
    | (with_reducible refine NEXTK.exit ?_)
    | (with_reducible refine SEQ.plain ?_)
    | (with_reducible refine hK _ _ ?_)
    | ((with_reducible refine RUNL.agg (fun _ => ?_) ?_); (focus kernel_rfl))
    | (with_reducible refine RUNL.run ?_)
    | ((with_reducible refine AR.ok ?_ ?_); exact ⟨by first | omega | (dsimp only; omega), by first | omega | (dsimp only; omega)⟩)
    | (with_reducible refine AR.wr ?_)
    | ((with_reducible intro w3 e3); try have z3 := cutLe e3)
    | ((with_reducible intro h3); have h4 := Nat.le_of_lt h3; clear h4)))
  all_goals
    intro hx
    refine ⟨?_, hx⟩
    unfold cmp3
    clear hK
    first
    | (rw [if_pos (by assumption)]; rfl)
    | (rw [if_neg (by assumption), if_pos (by assumption)]; rfl)
    | (rw [if_neg (by assumption), if_neg (by assumption)]; rfl)
theorem insSortFrm_c (key : Frm → Int) (lo : Nat) (a : Option Addr) (n c : Nat) (xs : List Frm) (f : FuncId) (w : World) (ho : Own w lo 26 5 (.slice a n c) (xs.map encFrm)) (hn : xs.length = n) (hm : n ≤ 1048577) (hb : hasBody Tryd.prog f = true)
    (hf : ∀ x y : Frm, ∀ w', Calls Tryd.prog f (#[].toList ++ [Value.agg (encFrm x).toArray, Value.agg (encFrm y).toArray] ++ #[].toList).toArray w' fun e w'' => e = .returned (.int .i64 (cmp3 (key x) (key y))) ∧ E0 w' w'') :
    Calls Tryd.prog 78 #[.slice a n c, .int .i64 0, .int .i64 n, .func (.func f) #[] #[]] w fun e w' => ∃ r, e = .returned r ∧ Ext (fun b => (Value.slice a n c).ownBlock = some b) w w' ∧ r = .tuple #[] ∧ Own w' lo 26 5 (.slice a n c) ((isort key xs).map encFrm) := by
  refine enterK (fun b => (Value.slice a n c).ownBlock = some b) 53 Tryd.func78 rfl rfl rfl fun K hK => ?_
  rcases Nat.eq_zero_or_pos n with h0 | h0
  · have hxs : xs = [] := List.eq_nil_of_length_eq_zero (by omega)
    subst hxs h0
    conv => whnf
    repeat (first | ((with_reducible refine NEXTK.normal ?_); conv => whnf) | ((with_reducible refine NEXTK.exit ?_); conv => whnf) | ((with_reducible refine NEXTK.ret ?_); conv => whnf) | ((with_reducible refine SEQ.plain ?_); conv => whnf) | ((with_reducible refine AR.ok ?_ ?_); exact ⟨by omega, by omega⟩; conv => whnf))
    refine LOOP.mk Nat (fun t => [(8, .v (.int .i64 1))]) (fun t wr => Own wr lo 26 5 (.slice a 0 c) (([] : List Frm).map encFrm)) (fun t => 0) 0 rfl ⟨rfl, trivial⟩ ho ?_
    rintro t wr - hown
    repeat (any_goals (
      conv => whnf
      first
      | ((exfalso; omega))
      | ((with_reducible refine BIF.dec ?_ ?_) <;> intro _)
      | ((with_reducible refine BIF.s ?_ ?_) <;> intro _)
      | (with_reducible refine NEXTK.normal ?_)
      | (with_reducible refine NEXTK.ret ?_)
      | (with_reducible refine NEXTK.exit ?_)
      | (with_reducible refine SEQ.plain ?_)
      | (with_reducible refine hK _ _ ?_)
      | ((with_reducible refine RUNL.agg (fun _ => ?_) ?_); (focus kernel_rfl))
      | (with_reducible refine RUNL.run ?_)
      | ((with_reducible refine AR.ok ?_ ?_); exact ⟨by first | omega | (dsimp only; omega), by first | omega | (dsimp only; omega)⟩)
      | (with_reducible refine AR.wr ?_)
      | ((with_reducible intro w3 e3); try have z3 := cutLe e3)
      | ((with_reducible intro h3); have h4 := Nat.le_of_lt h3; clear h4)))
    intro hx
    exact ⟨_, rfl, hx, rfl, hown⟩
  conv => whnf
  repeat (first | ((with_reducible refine NEXTK.normal ?_); conv => whnf) | ((with_reducible refine NEXTK.exit ?_); conv => whnf) | ((with_reducible refine NEXTK.ret ?_); conv => whnf) | ((with_reducible refine SEQ.plain ?_); conv => whnf) | ((with_reducible refine AR.ok ?_ ?_); exact ⟨by omega, by omega⟩; conv => whnf))
  refine LOOP.mk Nat (fun t => [(8, .v (.int .i64 ((t : Int) + 1)))]) (fun t wr => t + 1 ≤ n ∧ Own wr lo 26 5 (.slice a n c) ((isort key (xs.take (t + 1)) ++ xs.drop (t + 1)).map encFrm)) (fun t => n - t) 0 rfl ⟨rfl, trivial⟩ ⟨by omega, ?_⟩ ?_
  · have e : isort key (xs.take 1) ++ xs.drop 1 = xs := by
      match xs, hn with
      | x :: r, _ => simp [isort, insK]
      | [], h => simp at h; omega
    show Own _ lo 26 5 (.slice a n c) ((isort key (xs.take 1) ++ xs.drop 1).map encFrm)
    rw [e]; exact ho
  rintro t wr - ⟨ht, hown⟩
  obtain ⟨hsrt, hslen, -⟩ := isort_all key xs (t + 1) (by omega)
  conv => whnf
  repeat (first | ((with_reducible refine NEXTK.normal ?_); conv => whnf) | ((with_reducible refine NEXTK.exit ?_); conv => whnf) | ((with_reducible refine NEXTK.ret ?_); conv => whnf) | ((with_reducible refine SEQ.plain ?_); conv => whnf) | ((with_reducible refine AR.ok ?_ ?_); exact ⟨by omega, by omega⟩; conv => whnf))
  refine BIF.dec (fun hlt => ?_) (fun hlt => ?_)
  · have htl : t + 1 < xs.length := by omega
    obtain ⟨x, hx⟩ : ∃ x, xs[t + 1]? = some x := ⟨xs[t + 1]'(by omega), by simp⟩
    have hnext := isort_take key hx
    obtain ⟨s, hs⟩ : ∃ s, s = isort key (xs.take (t + 1)) := ⟨_, rfl⟩
    rw [← hs] at hown hsrt hslen hnext
    have hd0 : xs.drop (t + 1) = x :: xs.drop (t + 2) := by
      rw [List.drop_eq_getElem_cons (by omega)]
      congr 1
      exact (List.getElem?_eq_some_iff.1 hx).2
    repeat (any_goals (
      conv => whnf
      first
      | ((with_reducible refine BIF.dec ?_ ?_) <;> intro _)
      | ((with_reducible refine BIF.s ?_ ?_) <;> intro _)
      | (with_reducible refine NEXTK.normal ?_)
      | (with_reducible refine NEXTK.ret ?_)
      | (with_reducible refine NEXTK.exit ?_)
      | (with_reducible refine SEQ.plain ?_)
      | (with_reducible refine hK _ _ ?_)
      | ((with_reducible refine RUNL.agg (fun _ => ?_) ?_); (focus kernel_rfl))
      | (with_reducible refine RUNL.run ?_)
      | ((with_reducible refine AR.ok ?_ ?_); exact ⟨by first | omega | (dsimp only; omega), by first | omega | (dsimp only; omega)⟩)
      | (with_reducible refine AR.wr ?_)
      | ((with_reducible intro w3 e3); try have z3 := cutLe e3)
      | ((with_reducible intro h3); have h4 := Nat.le_of_lt h3; clear h4)))
    conv => whnf
    refine LOOP.mk Nat (fun d => [(9, .v (.int .i64 ((t : Int) + 1 - d)))]) (fun d ws => d ≤ t + 1 ∧ (∀ y ∈ s.drop (t + 1 - d), key x < key y) ∧ Own ws lo 26 5 (.slice a n c) ((s.take (t + 1 - d) ++ x :: s.drop (t + 1 - d) ++ xs.drop (t + 2)).map encFrm)) (fun d => t + 1 - d) 0 rfl ⟨by simp [lk, Nat.beq], trivial⟩ ⟨by omega, ?_, ?_⟩ ?_
    · intro y hy
      rw [List.drop_eq_nil_of_le (by omega)] at hy
      cases hy
    · rw [show t + 1 - 0 = s.length from by omega, List.take_length, List.drop_length]
      rw [hd0] at hown
      simpa using hown
    rintro d ws - ⟨hd, hgt, hown1⟩
    obtain ⟨q, hq⟩ : ∃ q, q = t + 1 - d := ⟨_, rfl⟩
    rw [← hq] at hgt hown1
    have hqi : ((t : Int) + 1 - d) = q := by omega
    obtain ⟨ls, hls⟩ : ∃ ls, ls = s.take q ++ x :: s.drop q ++ xs.drop (t + 2) := ⟨_, rfl⟩
    rw [← hls] at hown1
    have hlen := hown1.row.2
    rw [List.length_map] at hlen
    have his := hown1.row.1.isSome (by simp; omega)
    have hxq : ls[q]? = some x := by
      rw [hls, List.append_assoc, List.getElem?_append_right (by simp; omega)]
      have : q - (s.take q).length = 0 := by simp; omega
      rw [this]; rfl
    rcases Nat.eq_zero_or_pos q with hq0 | hq0
    · have hfin : insK key s x = s.take q ++ x :: s.drop q := insK_at key q (by omega) hsrt hgt (fun y h => by omega)
      repeat (any_goals (
        conv => whnf
        first
        | ((with_reducible refine DRAW.quietE (id := 4) ?_ ?_ ?_); kernel_rfl; kernel_rfl)
        | ((exfalso; omega))
        | ((with_reducible refine BIF.dec ?_ ?_) <;> intro _)
        | ((with_reducible refine BIF.s ?_ ?_) <;> intro _)
        | (with_reducible refine NEXTK.normal ?_)
        | (with_reducible refine NEXTK.ret ?_)
        | (with_reducible refine NEXTK.exit ?_)
        | (with_reducible refine SEQ.plain ?_)
        | (with_reducible refine hK _ _ ?_)
        | ((with_reducible refine RUNL.agg (fun _ => ?_) ?_); (focus kernel_rfl))
        | (with_reducible refine RUNL.run ?_)
        | ((with_reducible refine AR.ok ?_ ?_); exact ⟨by first | omega | (dsimp only; omega), by first | omega | (dsimp only; omega)⟩)
        | (with_reducible refine AR.wr ?_)
        | ((with_reducible intro w3 e3); try have z3 := cutLe e3)
        | ((with_reducible intro h3); have h4 := Nat.le_of_lt h3; clear h4)))
      refine ⟨t + 1, rfl, ⟨?_, trivial⟩, rfl, rfl, ⟨by omega, ?_⟩, by omega⟩
      · simp [lk, Nat.beq]
      · rw [hnext, hfin, ← hls]; exact hown1.e0 e3
    · obtain ⟨z, hz⟩ : ∃ z, s[q - 1]? = some z := ⟨s[q - 1]'(by omega), by simp⟩
      have hzq : ls[q - 1]? = some z := by
        rw [hls, List.append_assoc, List.getElem?_append_left (by simp; omega), List.getElem?_take, if_pos (by omega), hz]
      by_cases hxz : key x < key z
      · have hc3 : cmp3 (key x) (key z) < 0 := by unfold cmp3; rw [if_pos hxz]; omega
        repeat (any_goals (
          conv => whnf
          first
          | ((with_reducible refine DRAW.plan (id := 6) (.one 0 (.one 1 (.one 2 (.one 3 (.one 4 (.one 5 (.one 6 (.one 7 (.one 8 (.one 10 (.one 11 (.one 12 (.start (.alt 9 (.start (.alt 13 (.one 14 (.start (.alt 15 (.one 16 (.start (.alt 17 .done .stop))) .stop))) .stop)) (.alt 13 (.start (.alt 9 (.one 14 (.start (.alt 15 (.one 16 (.start (.alt 17 .done .stop))) .stop))) .stop)) .stop))))))))))))))) ?_ ?_ ?_ ?_); kernel_rfl; kernel_rfl; kernel_rfl)
          | ((with_reducible refine DRAW.quietE (id := 4) ?_ ?_ ?_); kernel_rfl; kernel_rfl)
          | ((exfalso; omega))
          | ((with_reducible refine OBL.mk ?_ (fun _ => ?_)); exact ⟨by omega, by omega, his⟩)
          | ((with_reducible refine ELD.atNow (enc := encFrm) (xs := ls) q hown1.row.1 ?_ ?_ (fun x' hx' => ?_)); omega; omega; obtain rfl : x = x' := by (rw [hxq] at hx'; exact Option.some.inj hx'))
          | ((with_reducible refine ELD.atNow (enc := encFrm) (xs := ls) (q - 1) hown1.row.1 ?_ ?_ (fun x' hx' => ?_)); omega; omega; obtain rfl : z = x' := by (rw [hzq] at hx'; exact Option.some.inj hx'))
          | ((with_reducible refine callQ (g := f) ?_ ?_); exact hb; refine ⟨_, fun w' _ => hf x z w', ?_⟩)
          | ((with_reducible intro w3 e3); have z3 := cutLe e3; replace hown1 := hown1.e0 e3)
          | ((with_reducible refine DRAW.plan (id := 6) (.one 0 (.one 1 (.one 2 (.one 3 (.one 4 (.one 5 (.one 6 (.one 7 (.one 8 (.one 10 (.one 11 (.one 12 (.start (.alt 9 (.start (.alt 13 (.one 14 (.start (.alt 15 (.one 16 (.start (.alt 17 .done .stop))) .stop))) .stop)) (.alt 13 (.start (.alt 9 (.one 14 (.start (.alt 15 (.one 16 (.start (.alt 17 .done .stop))) .stop))) .stop)) .stop))))))))))))))) ?_ ?_ ?_ ?_); kernel_rfl; kernel_rfl; kernel_rfl)
          | (with_reducible refine And.intro ?_ ?_)
          | (exact True.intro)
          | ((with_reducible refine BIF.dec ?_ ?_) <;> intro _)
          | ((with_reducible refine BIF.s ?_ ?_) <;> intro _)
          | (with_reducible refine NEXTK.normal ?_)
          | (with_reducible refine NEXTK.ret ?_)
          | (with_reducible refine NEXTK.exit ?_)
          | (with_reducible refine SEQ.plain ?_)
          | (with_reducible refine hK _ _ ?_)
          | ((with_reducible refine RUNL.agg (fun _ => ?_) ?_); (focus kernel_rfl))
          | (with_reducible refine RUNL.run ?_)
          | ((with_reducible refine AR.ok ?_ ?_); exact ⟨by first | omega | (dsimp only; omega), by first | omega | (dsimp only; omega)⟩)
          | (with_reducible refine AR.wr ?_)
          | ((with_reducible intro w3 e3); try have z3 := cutLe e3)
          | ((with_reducible intro h3); have h4 := Nat.le_of_lt h3; clear h4)))
        all_goals
          conv => whnf
          refine stM (i := _) hown1 rfl rfl rfl q hqi.symm (by rw [List.getElem?_map, hxq]; rfl) (by decide) (fun _ h => h) trivial (fun w6 e6 o6 => ?_)
          replace o6 : Own w6 lo 26 5 (.slice a n c) ((ls.set q z).map encFrm) := by rw [List.map_set]; exact o6
          have hzq2 : (ls.set q z)[q - 1]? = some z := by rw [List.getElem?_set_ne (by omega), hzq]
          repeat (any_goals (
            conv => whnf
            first
            | (with_reducible refine And.intro ?_ ?_)
            | (exact True.intro)
            | ((with_reducible refine OBL.mk ?_ (fun _ => ?_)); exact ⟨by omega, by omega, his⟩)
            | ((with_reducible refine BIF.dec ?_ ?_) <;> intro _)
            | ((with_reducible refine BIF.s ?_ ?_) <;> intro _)
            | (with_reducible refine NEXTK.normal ?_)
            | (with_reducible refine NEXTK.ret ?_)
            | (with_reducible refine NEXTK.exit ?_)
            | (with_reducible refine SEQ.plain ?_)
            | (with_reducible refine hK _ _ ?_)
            | ((with_reducible refine RUNL.agg (fun _ => ?_) ?_); (focus kernel_rfl))
            | (with_reducible refine RUNL.run ?_)
            | ((with_reducible refine AR.ok ?_ ?_); exact ⟨by first | omega | (dsimp only; omega), by first | omega | (dsimp only; omega)⟩)
            | (with_reducible refine AR.wr ?_)
            | ((with_reducible intro w3 e3); try have z3 := cutLe e3)
            | ((with_reducible intro h3); have h4 := Nat.le_of_lt h3; clear h4)))
          conv => whnf
          refine stM (i := _) o6 rfl rfl rfl (q - 1) (by omega) (by rw [List.getElem?_map, hzq2]; rfl) (by decide) (fun _ h => h) trivial (fun w7 e7 o7 => ?_)
          replace o7 : Own w7 lo 26 5 (.slice a n c) (((ls.set q z).set (q - 1) x).map encFrm) := by rw [List.map_set (l := ls.set q z)]; exact o7
          repeat (any_goals (
            conv => whnf
            first
            | (with_reducible refine And.intro ?_ ?_)
            | (exact True.intro)
            | ((with_reducible refine BIF.dec ?_ ?_) <;> intro _)
            | ((with_reducible refine BIF.s ?_ ?_) <;> intro _)
            | (with_reducible refine NEXTK.normal ?_)
            | (with_reducible refine NEXTK.ret ?_)
            | (with_reducible refine NEXTK.exit ?_)
            | (with_reducible refine SEQ.plain ?_)
            | (with_reducible refine hK _ _ ?_)
            | ((with_reducible refine RUNL.agg (fun _ => ?_) ?_); (focus kernel_rfl))
            | (with_reducible refine RUNL.run ?_)
            | ((with_reducible refine AR.ok ?_ ?_); exact ⟨by first | omega | (dsimp only; omega), by first | omega | (dsimp only; omega)⟩)
            | (with_reducible refine AR.wr ?_)
            | ((with_reducible intro w3 e3); try have z3 := cutLe e3)
            | ((with_reducible intro h3); have h4 := Nat.le_of_lt h3; clear h4)))
          refine ⟨d + 1, rfl, ⟨?_, trivial⟩, rfl, rfl, ⟨by omega, ?_, ?_⟩, by omega⟩
          · simp [lk, Nat.beq]; omega
          · rw [show t + 1 - (d + 1) = q - 1 from by omega, List.drop_eq_getElem_cons (by omega)]
            intro y hy
            rcases List.mem_cons.1 hy with rfl | hy
            · rw [(List.getElem?_eq_some_iff.1 hz).2]; exact hxz
            · rw [show q - 1 + 1 = q from by omega] at hy
              exact hgt y hy
          · have e8 : (ls.set q z).set (q - 1) x = s.take (q - 1) ++ x :: s.drop (q - 1) ++ xs.drop (t + 2) := by rw [hls]; exact swap_ins hq0 hz
            rw [show t + 1 - (d + 1) = q - 1 from by omega, ← e8]; exact o7
      · have hc3 : ¬ cmp3 (key x) (key z) < 0 := by unfold cmp3; rw [if_neg hxz]; split <;> omega
        have hfin : insK key s x = s.take q ++ x :: s.drop q := insK_at key q (by omega) hsrt hgt (fun y _ hy => by rw [hz] at hy; cases hy; omega)
        repeat (any_goals (
          conv => whnf
          first
          | ((with_reducible refine DRAW.quietE (id := 4) ?_ ?_ ?_); kernel_rfl; kernel_rfl)
          | ((exfalso; omega))
          | ((with_reducible refine OBL.mk ?_ (fun _ => ?_)); exact ⟨by omega, by omega, his⟩)
          | ((with_reducible refine ELD.atNow (enc := encFrm) (xs := ls) q hown1.row.1 ?_ ?_ (fun x' hx' => ?_)); omega; omega; obtain rfl : x = x' := by (rw [hxq] at hx'; exact Option.some.inj hx'))
          | ((with_reducible refine ELD.atNow (enc := encFrm) (xs := ls) (q - 1) hown1.row.1 ?_ ?_ (fun x' hx' => ?_)); omega; omega; obtain rfl : z = x' := by (rw [hzq] at hx'; exact Option.some.inj hx'))
          | ((with_reducible refine callQ (g := f) ?_ ?_); exact hb; refine ⟨_, fun w' _ => hf x z w', ?_⟩)
          | ((with_reducible intro w3 e3); have z3 := cutLe e3; replace hown1 := hown1.e0 e3)
          | ((with_reducible refine BIF.dec ?_ ?_) <;> intro _)
          | ((with_reducible refine BIF.s ?_ ?_) <;> intro _)
          | (with_reducible refine NEXTK.normal ?_)
          | (with_reducible refine NEXTK.ret ?_)
          | (with_reducible refine NEXTK.exit ?_)
          | (with_reducible refine SEQ.plain ?_)
          | (with_reducible refine hK _ _ ?_)
          | ((with_reducible refine RUNL.agg (fun _ => ?_) ?_); (focus kernel_rfl))
          | (with_reducible refine RUNL.run ?_)
          | ((with_reducible refine AR.ok ?_ ?_); exact ⟨by first | omega | (dsimp only; omega), by first | omega | (dsimp only; omega)⟩)
          | (with_reducible refine AR.wr ?_)
          | ((with_reducible intro w3 e3); try have z3 := cutLe e3)
          | ((with_reducible intro h3); have h4 := Nat.le_of_lt h3; clear h4)))
        refine ⟨t + 1, rfl, ⟨?_, trivial⟩, rfl, rfl, ⟨by omega, ?_⟩, by omega⟩
        · simp [lk, Nat.beq]
        · rw [hnext, hfin, ← hls]; exact hown1
  · have htn : t + 1 = n := by omega
    repeat (any_goals (
      conv => whnf
      first
      | ((with_reducible refine BIF.dec ?_ ?_) <;> intro _)
      | ((with_reducible refine BIF.s ?_ ?_) <;> intro _)
      | (with_reducible refine NEXTK.normal ?_)
      | (with_reducible refine NEXTK.ret ?_)
      | (with_reducible refine NEXTK.exit ?_)
      | (with_reducible refine SEQ.plain ?_)
      | (with_reducible refine hK _ _ ?_)
      | ((with_reducible refine RUNL.agg (fun _ => ?_) ?_); (focus kernel_rfl))
      | (with_reducible refine RUNL.run ?_)
      | ((with_reducible refine AR.ok ?_ ?_); exact ⟨by first | omega | (dsimp only; omega), by first | omega | (dsimp only; omega)⟩)
      | (with_reducible refine AR.wr ?_)
      | ((with_reducible intro w3 e3); try have z3 := cutLe e3)
      | ((with_reducible intro h3); have h4 := Nat.le_of_lt h3; clear h4)))
    intro hx
    rw [List.take_of_length_le (by omega), List.drop_eq_nil_of_le (by omega), List.append_nil] at hown
    exact ⟨_, rfl, hx, rfl, hown⟩
theorem stableFrm_c (key : Frm → Int) (lo : Nat) (a : Option Addr) (n c : Nat) (xs : List Frm) (f : FuncId) (w : World) (ho : Own w lo 26 5 (.slice a n c) (xs.map encFrm)) (hn : xs.length = n) (hm : n ≤ 19) (hb : hasBody Tryd.prog f = true)
    (hf : ∀ x y : Frm, ∀ w', Calls Tryd.prog f (#[].toList ++ [Value.agg (encFrm x).toArray, Value.agg (encFrm y).toArray] ++ #[].toList).toArray w' fun e w'' => e = .returned (.int .i64 (cmp3 (key x) (key y))) ∧ E0 w' w'') :
    Calls Tryd.prog 74 #[.slice a n c, .int .i64 n, .func (.func f) #[] #[]] w fun e w' => ∃ r, e = .returned r ∧ Ext (fun b => (Value.slice a n c).ownBlock = some b) w w' ∧ r = .tuple #[] ∧ Own w' lo 26 5 (.slice a n c) ((isort key xs).map encFrm) := by
  refine enterK (fun b => (Value.slice a n c).ownBlock = some b) 63 Tryd.func74 rfl rfl rfl fun K hK => ?_
  repeat (any_goals (
    conv => whnf
    first
    | ((with_reducible refine BIF.dec ?_ ?_) <;> intro _)
    | ((with_reducible refine BIF.s ?_ ?_) <;> intro _)
    | (with_reducible refine NEXTK.normal ?_)
    | (with_reducible refine NEXTK.ret ?_)
    | (with_reducible refine NEXTK.exit ?_)
    | (with_reducible refine SEQ.plain ?_)
    | (with_reducible refine hK _ _ ?_)
    | ((with_reducible refine RUNL.agg (fun _ => ?_) ?_); (focus kernel_rfl))
    | (with_reducible refine RUNL.run ?_)
    | ((with_reducible refine AR.ok ?_ ?_); exact ⟨by first | omega | (dsimp only; omega), by first | omega | (dsimp only; omega)⟩)
    | (with_reducible refine AR.wr ?_)
    | ((with_reducible intro w3 e3); try have z3 := cutLe e3)
    | ((with_reducible intro h3); have h4 := Nat.le_of_lt h3; clear h4)))
  conv => whnf
  refine LOOP.mk Unit (fun _ => [(7, .v (.int .i64 0)), (8, .v (.int .i64 20))]) (fun _ wr => Own wr lo 26 5 (.slice a n c) (xs.map encFrm)) (fun _ => 0) () rfl ⟨rfl, rfl, trivial⟩ (by repeat (first | exact ho | refine Own.e0 ?_ (by assumption))) ?_
  rintro ⟨⟩ wr - hown
  repeat (any_goals (
    conv => whnf
    first
    | ((exfalso; omega))
    | ((with_reducible refine BIF.dec ?_ ?_) <;> intro _)
    | ((with_reducible refine BIF.s ?_ ?_) <;> intro _)
    | (with_reducible refine NEXTK.normal ?_)
    | (with_reducible refine NEXTK.ret ?_)
    | (with_reducible refine NEXTK.exit ?_)
    | (with_reducible refine SEQ.plain ?_)
    | (with_reducible refine hK _ _ ?_)
    | ((with_reducible refine RUNL.agg (fun _ => ?_) ?_); (focus kernel_rfl))
    | (with_reducible refine RUNL.run ?_)
    | ((with_reducible refine AR.ok ?_ ?_); exact ⟨by first | omega | (dsimp only; omega), by first | omega | (dsimp only; omega)⟩)
    | (with_reducible refine AR.wr ?_)
    | ((with_reducible intro w3 e3); try have z3 := cutLe e3)
    | ((with_reducible intro h3); have h4 := Nat.le_of_lt h3; clear h4)))
  conv => whnf
  refine callM (g := 78) (by kernel_rfl) ⟨_, _, trivial, fun b hb h => h, insSortFrm_c key _ _ _ _ xs f _ hown hn (by omega) hb hf, fun r w6 e6 h => ?_⟩
  obtain ⟨rfl, o6⟩ := h
  repeat (any_goals (
    conv => whnf
    first
    | ((with_reducible refine BIF.dec ?_ ?_) <;> intro _)
    | ((with_reducible refine BIF.s ?_ ?_) <;> intro _)
    | (with_reducible refine NEXTK.normal ?_)
    | (with_reducible refine NEXTK.ret ?_)
    | (with_reducible refine NEXTK.exit ?_)
    | (with_reducible refine SEQ.plain ?_)
    | (with_reducible refine hK _ _ ?_)
    | ((with_reducible refine RUNL.agg (fun _ => ?_) ?_); (focus kernel_rfl))
    | (with_reducible refine RUNL.run ?_)
    | ((with_reducible refine AR.ok ?_ ?_); exact ⟨by first | omega | (dsimp only; omega), by first | omega | (dsimp only; omega)⟩)
    | (with_reducible refine AR.wr ?_)
    | ((with_reducible intro w3 e3); try have z3 := cutLe e3)
    | ((with_reducible intro h3); have h4 := Nat.le_of_lt h3; clear h4)))
  conv => whnf
  refine LOOP.mk Unit (fun _ => [(6, .v (.int .i64 20))]) (fun _ wr => Own wr lo 26 5 (.slice a n c) ((isort key xs).map encFrm)) (fun _ => 0) () rfl ⟨rfl, trivial⟩ o6 ?_
  rintro ⟨⟩ ws - hown1
  repeat (any_goals (
    conv => whnf
    first
    | ((exfalso; omega))
    | ((with_reducible refine BIF.dec ?_ ?_) <;> intro _)
    | ((with_reducible refine BIF.s ?_ ?_) <;> intro _)
    | (with_reducible refine NEXTK.normal ?_)
    | (with_reducible refine NEXTK.ret ?_)
    | (with_reducible refine NEXTK.exit ?_)
    | (with_reducible refine SEQ.plain ?_)
    | (with_reducible refine hK _ _ ?_)
    | ((with_reducible refine RUNL.agg (fun _ => ?_) ?_); (focus kernel_rfl))
    | (with_reducible refine RUNL.run ?_)
    | ((with_reducible refine AR.ok ?_ ?_); exact ⟨by first | omega | (dsimp only; omega), by first | omega | (dsimp only; omega)⟩)
    | (with_reducible refine AR.wr ?_)
    | ((with_reducible intro w3 e3); try have z3 := cutLe e3)
    | ((with_reducible intro h3); have h4 := Nat.le_of_lt h3; clear h4)))
  intro hx
  exact ⟨_, rfl, hx, rfl, hown1⟩
theorem sortStableFrm_c (key : Frm → Int) (lo : Nat) (a : Option Addr) (n c : Nat) (xs : List Frm) (f : FuncId) (w : World) (ho : Own w lo 26 5 (.slice a n c) (xs.map encFrm)) (hn : xs.length = n) (hm : n ≤ 19) (hb : hasBody Tryd.prog f = true)
    (hf : ∀ x y : Frm, ∀ w', Calls Tryd.prog f (#[].toList ++ [Value.agg (encFrm x).toArray, Value.agg (encFrm y).toArray] ++ #[].toList).toArray w' fun e w'' => e = .returned (.int .i64 (cmp3 (key x) (key y))) ∧ E0 w' w'') :
    Calls Tryd.prog 55 #[.slice a n c, .func (.func f) #[] #[]] w fun e w' => ∃ r, e = .returned r ∧ Ext (fun b => (Value.slice a n c).ownBlock = some b) w w' ∧ r = .tuple #[] ∧ Own w' lo 26 5 (.slice a n c) ((isort key xs).map encFrm) := by
  refine enterK (fun b => (Value.slice a n c).ownBlock = some b) 9 Tryd.func55 rfl rfl rfl fun K hK => ?_
  repeat (any_goals (
    conv => whnf
    first
    | ((with_reducible refine BIF.dec ?_ ?_) <;> intro _)
    | ((with_reducible refine BIF.s ?_ ?_) <;> intro _)
    | (with_reducible refine NEXTK.normal ?_)
    | (with_reducible refine NEXTK.ret ?_)
    | (with_reducible refine NEXTK.exit ?_)
    | (with_reducible refine SEQ.plain ?_)
    | (with_reducible refine hK _ _ ?_)
    | ((with_reducible refine RUNL.agg (fun _ => ?_) ?_); (focus kernel_rfl))
    | (with_reducible refine RUNL.run ?_)
    | ((with_reducible refine AR.ok ?_ ?_); exact ⟨by first | omega | (dsimp only; omega), by first | omega | (dsimp only; omega)⟩)
    | (with_reducible refine AR.wr ?_)
    | ((with_reducible intro w3 e3); try have z3 := cutLe e3)
    | ((with_reducible intro h3); have h4 := Nat.le_of_lt h3; clear h4)))
  conv => whnf
  refine callM (g := 74) (by kernel_rfl) ⟨_, _, trivial, fun b hb h => h, stableFrm_c key _ _ _ _ xs f _ (by repeat (first | exact ho | refine Own.e0 ?_ (by assumption))) hn hm hb hf, fun r w6 e6 h => ?_⟩
  obtain ⟨rfl, o6⟩ := h
  repeat (any_goals (
    conv => whnf
    first
    | ((with_reducible refine BIF.dec ?_ ?_) <;> intro _)
    | ((with_reducible refine BIF.s ?_ ?_) <;> intro _)
    | (with_reducible refine NEXTK.normal ?_)
    | (with_reducible refine NEXTK.ret ?_)
    | (with_reducible refine NEXTK.exit ?_)
    | (with_reducible refine SEQ.plain ?_)
    | (with_reducible refine hK _ _ ?_)
    | ((with_reducible refine RUNL.agg (fun _ => ?_) ?_); (focus kernel_rfl))
    | (with_reducible refine RUNL.run ?_)
    | ((with_reducible refine AR.ok ?_ ?_); exact ⟨by first | omega | (dsimp only; omega), by first | omega | (dsimp only; omega)⟩)
    | (with_reducible refine AR.wr ?_)
    | ((with_reducible intro w3 e3); try have z3 := cutLe e3)
    | ((with_reducible intro h3); have h4 := Nat.le_of_lt h3; clear h4)))
  intro hx
  exact ⟨_, rfl, hx, rfl, o6⟩
end Go.Proofs.YthgeeocmhdpgiaaDoor

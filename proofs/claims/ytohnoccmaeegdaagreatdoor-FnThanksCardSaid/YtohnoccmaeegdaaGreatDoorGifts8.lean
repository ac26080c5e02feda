/- MeanWait. -/
import Derived.Test.YtohnoccmaeegdaaGreatDoorRows
import Derived.Test.YtohnoccmaeegdaaGreatDoorGifts5
import Derived.Test.YtohnoccmaeegdaaGreatDoorGifts4
namespace Go.Proofs.YtohnoccmaeegdaaGreatDoor
open Go Go.X Go.Proofs Go.ChangeShapes Go.WideShapes Go.ChangeAt Go.RowKit
open Go.ChangeMaps (open_string shut_string)
set_option maxHeartbeats 1000000
set_option maxRecDepth 20000
set_option linter.unusedVariables false
set_option linter.unusedSimpArgs false
theorem filt_take {p : Gft → Bool} {xs : List Gft} {k : Nat} {x : Gft} (h : xs[k]? = some x) : (xs.take (k + 1)).filter p = (xs.take k).filter p ++ (if p x then [x] else []) := by
  rw [List.take_add_one, h, List.filter_append]
  by_cases hp : p x = true <;> simp [hp]
theorem filt_none {p : Gft → Bool} {xs : List Gft} (h : ∀ x ∈ xs, p x = false) : xs.filter (fun x => !p x) = xs := by
  rw [List.filter_eq_self]
  intro x hx
  simp [h x hx]
theorem DeleteFuncGft_c (p : Gft → Bool) (lo : Nat) (a : Option Addr) (n c : Nat) (xs : List Gft) (f : FuncId) (cap : Array Value) (w : World) (ho : Own w lo 41 5 (.slice a n c) (xs.map encGft)) (hn : xs.length = n) (hm : n ≤ 1048577) (hc : n ≤ c ∧ c < 9223372036854775808) (hb : hasBody Tryz.prog f = true)
    (hf : ∀ x ∈ xs, ∀ w', Ext (fun b => (Value.slice a n c).ownBlock = some b) w w' → Calls Tryz.prog f (#[].toList ++ [Value.agg (encGft x).toArray] ++ cap.toList).toArray w' fun e w'' => e = .returned (.bool (p x)) ∧ E0 w' w'') :
    Calls Tryz.prog 63 #[.slice a n c, .func (.func f) #[] cap] w fun e w' => ∃ r, e = .returned r ∧ Ext (fun b => (Value.slice a n c).ownBlock = some b) w w' ∧ Own w' lo 41 5 r ((xs.filter fun x => !p x).map encGft) := by
  refine enterK (fun b => (Value.slice a n c).ownBlock = some b) 42 Tryz.func63 rfl rfl rfl fun K hK => ?_
  repeat (any_goals (
    conv => whnf
    first
    | ((with_reducible refine BIF.dec ?_ ?_) <;> intro _)
    | ((with_reducible refine BIF.s ?_ ?_) <;> intro _)
    | (with_reducible refine NEXTK.normal ?_)
    | (with_reducible refine NEXTK.ret ?_)
    | (with_reducible refine NEXTK.exit ?_)
    | (with_reducible refine SEQ.plain ?_)
    | (with_reducible refine hK _ _ ?_)
    | ((with_reducible refine RUNL.agg (fun _ => ?_) ?_); (focus kernel_rfl))
    | (with_reducible refine RUNL.run ?_)
    | ((with_reducible refine AR.ok ?_ ?_); exact ⟨by first | omega | (dsimp only; omega), by first | omega | (dsimp only; omega)⟩)
    | (with_reducible refine AR.wr ?_)
    | ((with_reducible intro w3 e3); try have z3 := cutLe e3)
    | ((with_reducible intro h3); have h4 := Nat.le_of_lt h3; clear h4)))
  conv => whnf
  refine callF (g := 76) (by kernel_rfl) ⟨_, IndexFuncGft_c p _ _ _ xs _ _ _ ho.row.1 hn (by omega) hb (fun x hx w' e => hf x hx w' (Ext.of0 e)), fun w4 e4 => ?_⟩
  replace ho := ho.e0 e4
  rcases idxP_spec p xs with ⟨hi, hno⟩ | ⟨k, x0, hi, hk, hx0, hp0, hno⟩
  · repeat (any_goals (
      conv => whnf
      first
      | ((with_reducible refine BIF.beq ?_ ?_) <;> intro _)
      | ((exfalso; omega))
      | ((with_reducible refine BIF.dec ?_ ?_) <;> intro _)
      | ((with_reducible refine BIF.s ?_ ?_) <;> intro _)
      | (with_reducible refine NEXTK.normal ?_)
      | (with_reducible refine NEXTK.ret ?_)
      | (with_reducible refine NEXTK.exit ?_)
      | (with_reducible refine SEQ.plain ?_)
      | (with_reducible refine hK _ _ ?_)
      | ((with_reducible refine RUNL.agg (fun _ => ?_) ?_); (focus kernel_rfl))
      | (with_reducible refine RUNL.run ?_)
      | ((with_reducible refine AR.ok ?_ ?_); exact ⟨by first | omega | (dsimp only; omega), by first | omega | (dsimp only; omega)⟩)
      | (with_reducible refine AR.wr ?_)
      | ((with_reducible intro w3 e3); try have z3 := cutLe e3)
      | ((with_reducible intro h3); have h4 := Nat.le_of_lt h3; clear h4)))
    intro hx'
    rw [filt_none hno]
    exact ⟨_, rfl, hx', ho⟩
  · obtain ⟨g, rfl⟩ := ho.base (by omega)
    have hbk : ∀ b, g = b → (Value.slice (some ⟨g, 0, none⟩) n c).ownBlock = some b := fun b h => by subst h; rfl
    have hfk : (xs.take (k + 1)).filter (fun x => !p x) = xs.take k := by
      rw [filt_take hx0]
      have : (xs.take k).filter (fun x => !p x) = xs.take k := filt_none fun y hy => by
        obtain ⟨j, hj⟩ := List.getElem?_of_mem hy
        have hjk : j < k := by
          have := (List.getElem?_eq_some_iff.1 hj).1
          simp at this; omega
        rw [List.getElem?_take, if_pos hjk] at hj
        exact hno j y hjk hj
      rw [this]; simp [hp0]
    repeat (any_goals (
      conv => whnf
      first
      | ((with_reducible refine BIF.beq ?_ ?_) <;> intro _)
      | ((exfalso; omega))
      | ((with_reducible refine BIF.dec ?_ ?_) <;> intro _)
      | ((with_reducible refine BIF.s ?_ ?_) <;> intro _)
      | (with_reducible refine NEXTK.normal ?_)
      | (with_reducible refine NEXTK.ret ?_)
      | (with_reducible refine NEXTK.exit ?_)
      | (with_reducible refine SEQ.plain ?_)
      | (with_reducible refine hK _ _ ?_)
      | ((with_reducible refine RUNL.agg (fun _ => ?_) ?_); (focus kernel_rfl))
      | (with_reducible refine RUNL.run ?_)
      | ((with_reducible refine AR.ok ?_ ?_); exact ⟨by first | omega | (dsimp only; omega), by first | omega | (dsimp only; omega)⟩)
      | (with_reducible refine AR.wr ?_)
      | ((with_reducible intro w3 e3); try have z3 := cutLe e3)
      | ((with_reducible intro h3); have h4 := Nat.le_of_lt h3; clear h4)))
    conv => whnf
    refine LOOP.mk (Nat × Nat × List Gft) (fun t => [(6, .v (.int .i64 (t.1 : Int))), (5, .v (.int .i64 (t.2.1 : Int)))])
      (fun t wr => (t.2.1 < t.1 ∧ t.1 ≤ n) ∧ t.2.2.length = n ∧ t.2.2.take t.2.1 = (xs.take t.1).filter (fun x => !p x) ∧ t.2.2.drop t.1 = xs.drop t.1 ∧ Own wr lo 41 5 (.slice (some ⟨g, 0, none⟩) n c) (t.2.2.map encGft)) (fun t => n - t.1) (k + 1, k, xs) rfl ⟨?_, ?_, trivial⟩ ⟨by simp only; omega, hn, hfk.symm, rfl, ho⟩ ?_
    · simp [lk, Nat.beq, hi]
    · simp [lk, Nat.beq, hi]
    rintro ⟨j, i, ls⟩ wr - ⟨⟨hij, hjn⟩, hln, htk, hdr, hown⟩
    simp only at hij hjn hln htk hdr hown
    have oL := fun k h => hown.block (k := k) h
    conv => whnf
    repeat (first | ((with_reducible refine NEXTK.normal ?_); conv => whnf) | ((with_reducible refine NEXTK.exit ?_); conv => whnf) | ((with_reducible refine NEXTK.ret ?_); conv => whnf) | ((with_reducible refine SEQ.plain ?_); conv => whnf) | ((with_reducible refine AR.ok ?_ ?_); exact ⟨by omega, by omega⟩; conv => whnf))
    refine BIF.dec (fun hlt => ?_) (fun hlt => ?_)
    · have hlt' : j < ls.length := by simp only at hlt; omega
      have his := hown.row.1.isSome (by simp; omega)
      obtain ⟨x, hx⟩ : ∃ x, ls[j]? = some x := ⟨ls[j]'(by omega), by simp⟩
      have hxs : xs[j]? = some x := by
        have e1 : ls[j]? = (ls.drop j)[0]? := by simp
        have e2 : xs[j]? = (xs.drop j)[0]? := by simp
        rw [e2, ← hdr, ← e1, hx]
      have hxm := List.mem_of_getElem? hxs
      have hft := filt_take (p := fun x => !p x) hxs
      have hdr' : ∀ ms : List Gft, ms.drop j = xs.drop j → ms.drop (j + 1) = xs.drop (j + 1) := fun ms h => by
        rw [← List.drop_drop, ← List.drop_drop (l := xs), h]
      obtain ⟨y, hy⟩ : ∃ y, ls[i]? = some y := ⟨ls[i]'(by omega), by simp⟩
      cases hpx : p x with
      | true =>
        repeat (any_goals (
          conv => whnf
          first
          | ((with_reducible refine OBL.mk ?_ (fun _ => ?_)); exact ⟨by first | omega | (dsimp only; omega), by first | omega | (dsimp only; omega), his⟩)
          | ((with_reducible refine ELD.atNow (enc := encGft) (xs := ls) (j) hown.row.1 ?_ ?_ (fun x' hx' => ?_)); (first | rfl | omega); omega; obtain rfl : x = x' := by (rw [hx] at hx'; exact Option.some.inj hx'))
          | ((with_reducible intro w3 e3); have z3 := cutLe e3; replace hown := hown.ext e3 (by first | exact fun _ _ h => h | (intro k hk h; have hh := oL k hk; simp only [bk] at h; omega)))
          | ((with_reducible refine callX (g := f) ?_ ?_); exact hb; intro hX; refine ⟨_, hf x hxm _ hX, ?_⟩; intro w5 e5; have z5 := cutLe e5; replace hown := hown.e0 e5)
          | ((with_reducible refine BIF.s ?_ ?_) <;> intro hbad)
          | ((exfalso; rw [hpx] at hbad; exact absurd hbad (by decide)))
          | ((with_reducible refine BIF.dec ?_ ?_) <;> intro _)
          | ((with_reducible refine BIF.s ?_ ?_) <;> intro _)
          | (with_reducible refine NEXTK.normal ?_)
          | (with_reducible refine NEXTK.ret ?_)
          | (with_reducible refine NEXTK.exit ?_)
          | (with_reducible refine SEQ.plain ?_)
          | (with_reducible refine hK _ _ ?_)
          | ((with_reducible refine RUNL.agg (fun _ => ?_) ?_); (focus kernel_rfl))
          | (with_reducible refine RUNL.run ?_)
          | ((with_reducible refine AR.ok ?_ ?_); exact ⟨by first | omega | (dsimp only; omega), by first | omega | (dsimp only; omega)⟩)
          | (with_reducible refine AR.wr ?_)
          | ((with_reducible intro w3 e3); try have z3 := cutLe e3)
          | ((with_reducible intro h3); have h4 := Nat.le_of_lt h3; clear h4)))
        refine ⟨(j + 1, i, ls), rfl, ⟨rfl, rfl, trivial⟩, rfl, rfl, ⟨by simp only; omega, hln, ?_, hdr' ls hdr, hown⟩, by simp only; omega⟩
        rw [htk, hft]; simp [hpx]
      | false =>
        repeat (any_goals (
          conv => whnf
          first
          | ((with_reducible refine OBL.mk ?_ (fun _ => ?_)); exact ⟨by first | omega | (dsimp only; omega), by first | omega | (dsimp only; omega), his⟩)
          | ((with_reducible refine ELD.atNow (enc := encGft) (xs := ls) (j) hown.row.1 ?_ ?_ (fun x' hx' => ?_)); (first | rfl | omega); omega; obtain rfl : x = x' := by (rw [hx] at hx'; exact Option.some.inj hx'))
          | ((with_reducible intro w3 e3); have z3 := cutLe e3; replace hown := hown.ext e3 (by first | exact fun _ _ h => h | (intro k hk h; have hh := oL k hk; simp only [bk] at h; omega)))
          | ((with_reducible refine callX (g := f) ?_ ?_); exact hb; intro hX; refine ⟨_, hf x hxm _ hX, ?_⟩; intro w5 e5; have z5 := cutLe e5; replace hown := hown.e0 e5)
          | ((with_reducible refine BIF.s ?_ ?_) <;> intro hbad)
          | ((exfalso; rw [hpx] at hbad; exact absurd hbad (by decide)))
          | ((with_reducible refine BIF.dec ?_ ?_) <;> intro _)
          | ((with_reducible refine BIF.s ?_ ?_) <;> intro _)
          | (with_reducible refine NEXTK.normal ?_)
          | (with_reducible refine NEXTK.ret ?_)
          | (with_reducible refine NEXTK.exit ?_)
          | (with_reducible refine SEQ.plain ?_)
          | (with_reducible refine hK _ _ ?_)
          | ((with_reducible refine RUNL.agg (fun _ => ?_) ?_); (focus kernel_rfl))
          | (with_reducible refine RUNL.run ?_)
          | ((with_reducible refine AR.ok ?_ ?_); exact ⟨by first | omega | (dsimp only; omega), by first | omega | (dsimp only; omega)⟩)
          | (with_reducible refine AR.wr ?_)
          | ((with_reducible intro w3 e3); try have z3 := cutLe e3)
          | ((with_reducible intro h3); have h4 := Nat.le_of_lt h3; clear h4)))
        conv => whnf
        refine stM (i := _) hown rfl rfl rfl i rfl (by rw [List.getElem?_map, hy]; rfl) (by decide) (fun _ h => h) ⟨fun h => by have := (oL _ h).2; dsimp only at this; omega, trivial⟩ (fun w6 e6 o6 => ?_)
        replace o6 : Own w6 lo 41 5 (.slice (some ⟨g, 0, none⟩) n c) ((ls.set i x).map encGft) := by rw [List.map_set]; exact o6
        repeat (any_goals (
          conv => whnf
          first
          | ((with_reducible refine BIF.dec ?_ ?_) <;> intro _)
          | ((with_reducible refine BIF.s ?_ ?_) <;> intro _)
          | (with_reducible refine NEXTK.normal ?_)
          | (with_reducible refine NEXTK.ret ?_)
          | (with_reducible refine NEXTK.exit ?_)
          | (with_reducible refine SEQ.plain ?_)
          | (with_reducible refine hK _ _ ?_)
          | ((with_reducible refine RUNL.agg (fun _ => ?_) ?_); (focus kernel_rfl))
          | (with_reducible refine RUNL.run ?_)
          | ((with_reducible refine AR.ok ?_ ?_); exact ⟨by first | omega | (dsimp only; omega), by first | omega | (dsimp only; omega)⟩)
          | (with_reducible refine AR.wr ?_)
          | ((with_reducible intro w3 e3); try have z3 := cutLe e3)
          | ((with_reducible intro h3); have h4 := Nat.le_of_lt h3; clear h4)))
        refine ⟨(j + 1, i + 1, ls.set i x), rfl, ⟨rfl, rfl, trivial⟩, rfl, rfl, ⟨by simp only; omega, by simpa using hln, ?_, hdr' _ ?_, o6⟩, by simp only; omega⟩
        · simp only
          rw [hft, ← htk, List.take_add_one, List.getElem?_set_self (by omega), List.take_set_of_le (Nat.le_refl _)]
          simp [hpx]
        · rw [List.drop_set_of_lt hij, hdr]
    · have hjn' : j = n := by simp only at hlt; omega
      subst hjn'
      have hres : ls.take i = xs.filter (fun x => !p x) := by rw [htk, List.take_of_length_le (by omega)]
      have ocut := hown.cut i (by omega)
      rw [← List.map_take, hres] at ocut
      repeat (any_goals (
        conv => whnf
        first
        | ((with_reducible refine OBL.mk ?_ (fun _ => ?_)); (first | omega | (dsimp only; omega)))
        | ((with_reducible refine BIF.dec ?_ ?_) <;> intro _)
        | ((with_reducible refine BIF.s ?_ ?_) <;> intro _)
        | (with_reducible refine NEXTK.normal ?_)
        | (with_reducible refine NEXTK.ret ?_)
        | (with_reducible refine NEXTK.exit ?_)
        | (with_reducible refine SEQ.plain ?_)
        | (with_reducible refine hK _ _ ?_)
        | ((with_reducible refine RUNL.agg (fun _ => ?_) ?_); (focus kernel_rfl))
        | (with_reducible refine RUNL.run ?_)
        | ((with_reducible refine AR.ok ?_ ?_); exact ⟨by first | omega | (dsimp only; omega), by first | omega | (dsimp only; omega)⟩)
        | (with_reducible refine AR.wr ?_)
        | ((with_reducible intro w3 e3); try have z3 := cutLe e3)
        | ((with_reducible intro h3); have h4 := Nat.le_of_lt h3; clear h4)))
      conv => whnf
      refine clS elemGft rfl (n := i) (cp := c) ocut (fun _ => ?_) (by simp only [Int.toNat_natCast]; omega) (fun b _ h => h) trivial (fun w7 e7 o7 => ?_)
      · rw [if_neg (by omega)]
        congr 2
      repeat (any_goals (
        conv => whnf
        first
        | ((with_reducible refine OBL.mk ?_ (fun _ => ?_)); (first | omega | (dsimp only; omega)))
        | ((with_reducible refine BIF.dec ?_ ?_) <;> intro _)
        | ((with_reducible refine BIF.s ?_ ?_) <;> intro _)
        | (with_reducible refine NEXTK.normal ?_)
        | (with_reducible refine NEXTK.ret ?_)
        | (with_reducible refine NEXTK.exit ?_)
        | (with_reducible refine SEQ.plain ?_)
        | (with_reducible refine hK _ _ ?_)
        | ((with_reducible refine RUNL.agg (fun _ => ?_) ?_); (focus kernel_rfl))
        | (with_reducible refine RUNL.run ?_)
        | ((with_reducible refine AR.ok ?_ ?_); exact ⟨by first | omega | (dsimp only; omega), by first | omega | (dsimp only; omega)⟩)
        | (with_reducible refine AR.wr ?_)
        | ((with_reducible intro w3 e3); try have z3 := cutLe e3)
        | ((with_reducible intro h3); have h4 := Nat.le_of_lt h3; clear h4)))
      intro hx'
      refine ⟨_, rfl, hx', ?_⟩
      have e0 := cut0 g c i 5
      simp only [resV]
      exact e0 ▸ o7
def fil (d : Int) (xs : List Gft) : List Gft := xs.filter fun x => !decide (d < x.fDay)
theorem fil_len (d : Int) (xs : List Gft) : (fil d xs).length ≤ xs.length := List.length_filter_le _ _
theorem fil_mem {d : Int} {xs : List Gft} {x : Gft} (h : x ∈ fil d xs) : x ∈ xs ∧ x.fDay ≤ d := by
  obtain ⟨h1, h2⟩ := List.mem_filter.1 h
  refine ⟨h1, ?_⟩
  simp at h2; exact h2
theorem fil_take {d : Int} {xs : List Gft} {k : Nat} {x : Gft} (h : xs[k]? = some x) : fil d (xs.take (k + 1)) = fil d (xs.take k) ++ (if x.fDay ≤ d then [x] else []) := by
  unfold fil
  rw [List.take_add_one, h, List.filter_append]
  congr 1
  by_cases hx : x.fDay ≤ d
  · have : ¬ d < x.fDay := by omega
    simp [hx, this]
  · have : d < x.fDay := by omega
    simp [hx, this]
theorem arrived1_c (x : Gft) (d : Int) (p : Addr) (w : World) (hp : Row w (some p) 1 [[.int .i64 d]]) :
    Calls Tryz.prog 64 #[.agg (encGft x).toArray, .pointer (some p)] w fun e w' => e = .returned (.bool (decide (d < x.fDay))) ∧ E0 w w' := by
  refine enterK Non 8 Tryz.func64 rfl rfl rfl fun K hK => ?_
  repeat (any_goals (
    conv => whnf
    first
    | ((with_reducible refine ELD.old [[.int .i64 d]] [.int .i64 d] hp ?_ ?_ ?_); exact mAddr_Non _; rfl)
    | ((with_reducible refine BIF.dec ?_ ?_) <;> intro _)
    | ((with_reducible refine BIF.s ?_ ?_) <;> intro _)
    | (with_reducible refine NEXTK.normal ?_)
    | (with_reducible refine NEXTK.ret ?_)
    | (with_reducible refine NEXTK.exit ?_)
    | (with_reducible refine SEQ.plain ?_)
    | (with_reducible refine hK _ _ ?_)
    | ((with_reducible refine RUNL.agg (fun _ => ?_) ?_); (focus kernel_rfl))
    | (with_reducible refine RUNL.run ?_)
    | ((with_reducible refine AR.ok ?_ ?_); exact ⟨by first | omega | (dsimp only; omega), by first | omega | (dsimp only; omega)⟩)
    | (with_reducible refine AR.wr ?_)
    | ((with_reducible intro w3 e3); try have z3 := cutLe e3)
    | ((with_reducible intro h3); have h4 := Nat.le_of_lt h3; clear h4)))
  intro hx
  exact ⟨rfl, hx⟩
theorem arrived_c (a : Option Addr) (n c : Nat) (xs : List Gft) (d : Int) (w : World) (hr : Row w a 5 (xs.map encGft)) (hn : xs.length = n) (hm : n ≤ 1048577) :
    Calls Tryz.prog 33 #[.slice a n c, .int .i64 d] w fun e w' => ∃ v, e = .returned v ∧ E0 w w' ∧ Own w' w.heap.size 41 5 v ((fil d xs).map encGft) := by
  refine enterK Non 9 Tryz.func33 rfl rfl rfl fun K hK => ?_
  repeat (any_goals (
    conv => whnf
    first
    | ((with_reducible refine BIF.dec ?_ ?_) <;> intro _)
    | ((with_reducible refine BIF.s ?_ ?_) <;> intro _)
    | (with_reducible refine NEXTK.normal ?_)
    | (with_reducible refine NEXTK.ret ?_)
    | (with_reducible refine NEXTK.exit ?_)
    | (with_reducible refine SEQ.plain ?_)
    | (with_reducible refine hK _ _ ?_)
    | ((with_reducible refine RUNL.agg (fun _ => ?_) ?_); (focus kernel_rfl))
    | (with_reducible refine RUNL.run ?_)
    | ((with_reducible refine AR.ok ?_ ?_); exact ⟨by first | omega | (dsimp only; omega), by first | omega | (dsimp only; omega)⟩)
    | (with_reducible refine AR.wr ?_)
    | ((with_reducible intro w3 e3); try have z3 := cutLe e3)
    | ((with_reducible intro h3); have h4 := Nat.le_of_lt h3; clear h4)))
  conv => whnf
  refine callY (g := 29) (by kernel_rfl) ⟨_, fun x => CloneGft_c _ _ _ xs _ (hr.ext x (mAddr_Non _)) hn (by omega), fun r w5 e5 oC => ?_⟩
  have z5 := cutLe e5
  have oL := fun k h => oC.block (k := k) h
  obtain ⟨b5, d5, rfl, q5, p5⟩ := oC.rowx
  repeat (any_goals (
    conv => whnf
    first
    | ((with_reducible refine RUN.mk (fun _ => rfl) ?_))
    | ((with_reducible refine BIF.dec ?_ ?_) <;> intro _)
    | ((with_reducible refine BIF.s ?_ ?_) <;> intro _)
    | (with_reducible refine NEXTK.normal ?_)
    | (with_reducible refine NEXTK.ret ?_)
    | (with_reducible refine NEXTK.exit ?_)
    | (with_reducible refine SEQ.plain ?_)
    | (with_reducible refine hK _ _ ?_)
    | ((with_reducible refine RUNL.agg (fun _ => ?_) ?_); (focus kernel_rfl))
    | (with_reducible refine RUNL.run ?_)
    | ((with_reducible refine AR.ok ?_ ?_); exact ⟨by first | omega | (dsimp only; omega), by first | omega | (dsimp only; omega)⟩)
    | (with_reducible refine AR.wr ?_)
    | ((with_reducible intro w3 e3); try have z3 := cutLe e3)
    | ((with_reducible intro h3); have h4 := Nat.le_of_lt h3; clear h4)))
  conv => whnf
  refine callMB (g := 63) (by kernel_rfl) ⟨_, _, ⟨fun h => by have := (oL _ h).1; dsimp only at this; omega, trivial⟩, fun b hb h => oC.fresh (by show w.heap.size ≤ _; omega) b hb h,
    fun hbx => DeleteFuncGft_c (fun x => decide (d < x.fDay)) _ _ _ _ xs _ _ _ oC rfl (by omega) p5 (by kernel_rfl) (fun x hx w' e => arrived1_c x d _ _ ((Boxes.row hbx 0 _ _ _ rfl).ext e (fun h => by have := (oL _ h).1; dsimp only at this; omega))), fun r w6 e6 o6 => ?_⟩
  obtain ⟨b6, d6, rfl, q6, p6⟩ := o6.rowx
  repeat (any_goals (
    conv => whnf
    first
    | ((with_reducible refine BIF.dec ?_ ?_) <;> intro _)
    | ((with_reducible refine BIF.s ?_ ?_) <;> intro _)
    | (with_reducible refine NEXTK.normal ?_)
    | (with_reducible refine NEXTK.ret ?_)
    | (with_reducible refine NEXTK.exit ?_)
    | (with_reducible refine SEQ.plain ?_)
    | (with_reducible refine hK _ _ ?_)
    | ((with_reducible refine RUNL.agg (fun _ => ?_) ?_); (focus kernel_rfl))
    | (with_reducible refine RUNL.run ?_)
    | ((with_reducible refine AR.ok ?_ ?_); exact ⟨by first | omega | (dsimp only; omega), by first | omega | (dsimp only; omega)⟩)
    | (with_reducible refine AR.wr ?_)
    | ((with_reducible intro w3 e3); try have z3 := cutLe e3)
    | ((with_reducible intro h3); have h4 := Nat.le_of_lt h3; clear h4)))
  intro hx'
  exact ⟨_, rfl, hx', o6.lo (by omega)⟩
theorem waitG_bnd {d : Int} {x : Gft} (hok : okG x = true) (hd : 0 ≤ d ∧ d ≤ 4000) (hx : x.fDay ≤ d) : 0 ≤ waitG d x ∧ waitG d x ≤ 4000 := by
  have h := okG_spec hok
  unfold waitG
  by_cases ht : thB d x = true
  · rw [if_pos ht]
    simp only [thB, Bool.and_eq_true, Bool.not_eq_true', decide_eq_false_iff_not, decide_eq_true_eq] at ht
    omega
  · rw [if_neg ht]; omega
theorem tdiv_bnd {p r : Int} (hp : 0 ≤ p) (hr : 1 ≤ r) : 0 ≤ p.tdiv r ∧ p.tdiv r ≤ p := by
  rw [Int.tdiv_eq_ediv_of_nonneg hp]
  exact ⟨Int.ediv_nonneg hp (by omega), Int.ediv_le_self _ hp⟩
theorem tmod_nat (a b : Nat) : (a : Int).tmod (b : Int) = ((a % b : Nat) : Int) := by
  rw [Int.tmod_eq_emod_of_nonneg (by omega)]; omega
theorem gcd_step (a b : Nat) : Nat.gcd b (a % b) = Nat.gcd a b := by
  rw [Nat.gcd_comm b, ← Nat.gcd_rec b a, Nat.gcd_comm]
theorem gcd_c (a b : Nat) (w : World) (ha : a ≤ 1000000) (hb : b ≤ 1000000) : Calls Tryz.prog 66 #[.int .i64 a, .int .i64 b] w fun e w' => e = .returned (.int .i64 (Nat.gcd a b)) ∧ E0 w w' := by
  refine enterK Non 12 Tryz.func66 rfl rfl rfl fun K hK => ?_
  conv => whnf
  repeat (first | ((with_reducible refine NEXTK.normal ?_); conv => whnf) | ((with_reducible refine NEXTK.exit ?_); conv => whnf) | ((with_reducible refine NEXTK.ret ?_); conv => whnf) | ((with_reducible refine SEQ.plain ?_); conv => whnf) | ((with_reducible refine AR.ok ?_ ?_); exact ⟨by omega, by omega⟩; conv => whnf))
  refine LOOP.mk (Nat × Nat) (fun g => [(0, .v (.int .i64 g.1)), (1, .v (.int .i64 g.2))]) (fun g _ => Nat.gcd g.1 g.2 = Nat.gcd a b ∧ g.1 ≤ 1000000 ∧ g.2 ≤ 1000000) (fun g => g.2) (a, b) rfl ⟨rfl, rfl, trivial⟩ ⟨rfl, ha, hb⟩ ?_
  rintro ⟨p, q⟩ wr - ⟨hg, hp, hq⟩
  simp only at hg hp hq
  have htm := tmod_nat p q
  by_cases hq0 : q = 0
  · subst hq0
    repeat (any_goals (
      conv => whnf
      first
      | ((with_reducible refine BIF.bne ?_ ?_) <;> intro _)
      | ((exfalso; (first | omega | (simp_all; done))))
      | ((with_reducible refine BIF.dec ?_ ?_) <;> intro _)
      | ((with_reducible refine BIF.s ?_ ?_) <;> intro _)
      | (with_reducible refine NEXTK.normal ?_)
      | (with_reducible refine NEXTK.ret ?_)
      | (with_reducible refine NEXTK.exit ?_)
      | (with_reducible refine SEQ.plain ?_)
      | (with_reducible refine hK _ _ ?_)
      | ((with_reducible refine RUNL.agg (fun _ => ?_) ?_); (focus kernel_rfl))
      | (with_reducible refine RUNL.run ?_)
      | ((with_reducible refine AR.ok ?_ ?_); exact ⟨by first | omega | (dsimp only; omega), by first | omega | (dsimp only; omega)⟩)
      | (with_reducible refine AR.wr ?_)
      | ((with_reducible intro w3 e3); try have z3 := cutLe e3)
      | ((with_reducible intro h3); have h4 := Nat.le_of_lt h3; clear h4)))
    intro hx
    refine ⟨?_, hx⟩
    rw [← hg, Nat.gcd_zero_right]; rfl
  · have hlt : p % q < q := Nat.mod_lt _ (by omega)
    repeat (any_goals (
      conv => whnf
      first
      | ((with_reducible refine BIF.bne ?_ ?_) <;> intro hbn)
      | ((exfalso; (first | omega | (dsimp only at hbn; omega))))
      | ((with_reducible refine DRAW.quietE ?_ ?_ ?_); kernel_rfl; kernel_rfl)
      | ((with_reducible refine OBL.mk ?_ (fun _ => ?_)); (dsimp only; omega))
      | ((with_reducible refine BIF.dec ?_ ?_) <;> intro _)
      | ((with_reducible refine BIF.s ?_ ?_) <;> intro _)
      | (with_reducible refine NEXTK.normal ?_)
      | (with_reducible refine NEXTK.ret ?_)
      | (with_reducible refine NEXTK.exit ?_)
      | (with_reducible refine SEQ.plain ?_)
      | (with_reducible refine hK _ _ ?_)
      | ((with_reducible refine RUNL.agg (fun _ => ?_) ?_); (focus kernel_rfl))
      | (with_reducible refine RUNL.run ?_)
      | ((with_reducible refine AR.ok ?_ ?_); exact ⟨by first | omega | (dsimp only; omega), by first | omega | (dsimp only; omega)⟩)
      | (with_reducible refine AR.wr ?_)
      | ((with_reducible intro w3 e3); try have z3 := cutLe e3)
      | ((with_reducible intro h3); have h4 := Nat.le_of_lt h3; clear h4)))
    refine ⟨(q, p % q), rfl, ⟨rfl, congrArg (fun z => TV.v (Value.int IntKind.i64 z)) htm, trivial⟩, rfl, rfl, ⟨by simp only; rw [gcd_step]; exact hg, hq, by simp only; omega⟩, by simp only; omega⟩
theorem abs_c (k : Nat) (w : World) (hk : k ≤ 1000000) : Calls Tryz.prog 67 #[.int .i64 k] w fun e w' => e = .returned (.int .i64 k) ∧ E0 w w' := by
  refine enterK Non 7 Tryz.func67 rfl rfl rfl fun K hK => ?_
  repeat (any_goals (
    conv => whnf
    first
    | ((with_reducible refine BIF.dec ?_ ?_) <;> intro _)
    | ((with_reducible refine BIF.s ?_ ?_) <;> intro _)
    | (with_reducible refine NEXTK.normal ?_)
    | (with_reducible refine NEXTK.ret ?_)
    | (with_reducible refine NEXTK.exit ?_)
    | (with_reducible refine SEQ.plain ?_)
    | (with_reducible refine hK _ _ ?_)
    | ((with_reducible refine RUNL.agg (fun _ => ?_) ?_); (focus kernel_rfl))
    | (with_reducible refine RUNL.run ?_)
    | ((with_reducible refine AR.ok ?_ ?_); exact ⟨by first | omega | (dsimp only; omega), by first | omega | (dsimp only; omega)⟩)
    | (with_reducible refine AR.wr ?_)
    | ((with_reducible intro w3 e3); try have z3 := cutLe e3)
    | ((with_reducible intro h3); have h4 := Nat.le_of_lt h3; clear h4)))
  intro hx
  refine ⟨?_, hx⟩
  have : max (k : Int) (0 - (k : Int)) = k := by omega
  show Ending.returned (Value.int IntKind.i64 (max (k : Int) (0 - (k : Int)))) = _
  rw [this]
theorem fraction_c (s m : Nat) (w : World) (hs : s ≤ 1000000) (hm : 1 ≤ m ∧ m ≤ 1000000) : Calls Tryz.prog 35 #[.int .i64 s, .int .i64 m] w fun e w' => e = .returned (.tuple #[.int .i64 ((s : Int).tdiv (Nat.gcd s m)), .int .i64 ((m : Int).tdiv (Nat.gcd s m))]) ∧ E0 w w' := by
  have hg : 0 < Nat.gcd s m := Nat.gcd_pos_of_pos_right _ (by omega)
  have h1 := tdiv_bnd (p := (s : Int)) (r := Nat.gcd s m) (by omega) (by omega)
  have h2 := tdiv_bnd (p := (m : Int)) (r := Nat.gcd s m) (by omega) (by omega)
  refine enterK Non 17 Tryz.func35 rfl rfl rfl fun K hK => ?_
  repeat (any_goals (
    conv => whnf
    first
    | ((with_reducible refine callF (g := 67) ?_ ?_); kernel_rfl; refine ⟨_, abs_c _ _ hs, ?_⟩; intro w4 e4; have z4 := cutLe e4)
    | ((with_reducible refine callF (g := 66) ?_ ?_); kernel_rfl; refine ⟨_, gcd_c _ _ _ hs hm.2, ?_⟩; intro w4 e4; have z4 := cutLe e4)
    | ((with_reducible refine DRAW.quietE ?_ ?_ ?_); kernel_rfl; kernel_rfl)
    | ((with_reducible refine OBL.mk ?_ (fun _ => ?_)); omega)
    | ((with_reducible refine BIF.dec ?_ ?_) <;> intro _)
    | ((with_reducible refine BIF.s ?_ ?_) <;> intro _)
    | (with_reducible refine NEXTK.normal ?_)
    | (with_reducible refine NEXTK.ret ?_)
    | (with_reducible refine NEXTK.exit ?_)
    | (with_reducible refine SEQ.plain ?_)
    | (with_reducible refine hK _ _ ?_)
    | ((with_reducible refine RUNL.agg (fun _ => ?_) ?_); (focus kernel_rfl))
    | (with_reducible refine RUNL.run ?_)
    | ((with_reducible refine AR.ok ?_ ?_); exact ⟨by first | omega | (dsimp only; omega), by first | omega | (dsimp only; omega)⟩)
    | (with_reducible refine AR.wr ?_)
    | ((with_reducible intro w3 e3); try have z3 := cutLe e3)
    | ((with_reducible intro h3); have h4 := Nat.le_of_lt h3; clear h4)))
  intro hx
  exact ⟨rfl, hx⟩
theorem l2Reduce_c (s m : Nat) (w : World) (hs : s ≤ 1000000) (hm : 1 ≤ m ∧ m ≤ 1000000) : Calls Tryz.prog 37 #[.int .i64 s, .int .i64 m] w fun e w' => e = .returned (.tuple #[.int .i64 ((s : Int).tdiv (Nat.gcd s m)), .int .i64 ((m : Int).tdiv (Nat.gcd s m))]) ∧ E0 w w' := by
  have hg : 0 < Nat.gcd s m := Nat.gcd_pos_of_pos_right _ (by omega)
  have h1 := tdiv_bnd (p := (s : Int)) (r := Nat.gcd s m) (by omega) (by omega)
  have h2 := tdiv_bnd (p := (m : Int)) (r := Nat.gcd s m) (by omega) (by omega)
  have hmx : max (s : Int) (0 - (s : Int)) = s := by omega
  refine enterK Non 27 Tryz.func37 rfl rfl rfl fun K hK => ?_
  repeat (any_goals (
    conv => whnf
    first
    | ((with_reducible refine callF (g := 58) ?_ ?_); kernel_rfl; refine ⟨_, l1Most_c _ _ _, ?_⟩; intro w4 e4; have z4 := cutLe e4)
    | ((with_reducible refine BIF.dec ?_ ?_) <;> intro _)
    | ((with_reducible refine BIF.s ?_ ?_) <;> intro _)
    | (with_reducible refine NEXTK.normal ?_)
    | (with_reducible refine NEXTK.ret ?_)
    | (with_reducible refine NEXTK.exit ?_)
    | (with_reducible refine SEQ.plain ?_)
    | (with_reducible refine hK _ _ ?_)
    | ((with_reducible refine RUNL.agg (fun _ => ?_) ?_); (focus kernel_rfl))
    | (with_reducible refine RUNL.run ?_)
    | ((with_reducible refine AR.ok ?_ ?_); exact ⟨by first | omega | (dsimp only; omega), by first | omega | (dsimp only; omega)⟩)
    | (with_reducible refine AR.wr ?_)
    | ((with_reducible intro w3 e3); try have z3 := cutLe e3)
    | ((with_reducible intro h3); have h4 := Nat.le_of_lt h3; clear h4)))
  conv => whnf
  refine LOOP.mk (Nat × Nat) (fun g => [(6, .v (.int .i64 g.1)), (7, .v (.int .i64 g.2))]) (fun g _ => Nat.gcd g.1 g.2 = Nat.gcd s m ∧ g.1 ≤ 1000000 ∧ g.2 ≤ 1000000) (fun g => g.2) (s, m) rfl ⟨congrArg (fun z => TV.v (Value.int IntKind.i64 z)) hmx, rfl, trivial⟩ ⟨rfl, hs, hm.2⟩ ?_
  rintro ⟨p, q⟩ wr - ⟨hgq, hp, hq⟩
  simp only at hgq hp hq
  have htm := tmod_nat p q
  by_cases hq0 : q = 0
  · subst hq0
    rw [Nat.gcd_zero_right] at hgq
    subst hgq
    repeat (any_goals (
      conv => whnf
      first
      | ((with_reducible refine BIF.bne ?_ ?_) <;> intro _)
      | ((exfalso; (first | omega | (simp_all; done))))
      | ((with_reducible refine DRAW.quietE ?_ ?_ ?_); kernel_rfl; kernel_rfl)
      | ((with_reducible refine OBL.mk ?_ (fun _ => ?_)); (first | omega | (dsimp only; omega)))
      | ((with_reducible refine BIF.dec ?_ ?_) <;> intro _)
      | ((with_reducible refine BIF.s ?_ ?_) <;> intro _)
      | (with_reducible refine NEXTK.normal ?_)
      | (with_reducible refine NEXTK.ret ?_)
      | (with_reducible refine NEXTK.exit ?_)
      | (with_reducible refine SEQ.plain ?_)
      | (with_reducible refine hK _ _ ?_)
      | ((with_reducible refine RUNL.agg (fun _ => ?_) ?_); (focus kernel_rfl))
      | (with_reducible refine RUNL.run ?_)
      | ((with_reducible refine AR.ok ?_ ?_); exact ⟨by first | omega | (dsimp only; omega), by first | omega | (dsimp only; omega)⟩)
      | (with_reducible refine AR.wr ?_)
      | ((with_reducible intro w3 e3); try have z3 := cutLe e3)
      | ((with_reducible intro h3); have h4 := Nat.le_of_lt h3; clear h4)))
    intro hx
    exact ⟨rfl, hx⟩
  · have hlt : p % q < q := Nat.mod_lt _ (by omega)
    repeat (any_goals (
      conv => whnf
      first
      | ((with_reducible refine BIF.bne ?_ ?_) <;> intro hbn)
      | ((exfalso; (first | omega | (dsimp only at hbn; omega))))
      | ((with_reducible refine OBL.mk ?_ (fun _ => ?_)); (dsimp only; omega))
      | ((with_reducible refine BIF.dec ?_ ?_) <;> intro _)
      | ((with_reducible refine BIF.s ?_ ?_) <;> intro _)
      | (with_reducible refine NEXTK.normal ?_)
      | (with_reducible refine NEXTK.ret ?_)
      | (with_reducible refine NEXTK.exit ?_)
      | (with_reducible refine SEQ.plain ?_)
      | (with_reducible refine hK _ _ ?_)
      | ((with_reducible refine RUNL.agg (fun _ => ?_) ?_); (focus kernel_rfl))
      | (with_reducible refine RUNL.run ?_)
      | ((with_reducible refine AR.ok ?_ ?_); exact ⟨by first | omega | (dsimp only; omega), by first | omega | (dsimp only; omega)⟩)
      | (with_reducible refine AR.wr ?_)
      | ((with_reducible intro w3 e3); try have z3 := cutLe e3)
      | ((with_reducible intro h3); have h4 := Nat.le_of_lt h3; clear h4)))
    refine ⟨(q, p % q), rfl, ⟨rfl, congrArg (fun z => TV.v (Value.int IntKind.i64 z)) htm, trivial⟩, rfl, rfl, ⟨by simp only; rw [gcd_step]; exact hgq, hq, by simp only; omega⟩, by simp only; omega⟩
def sumW (d : Int) : List Gft → Int
  | [] => 0
  | x :: t => waitG d x + sumW d t
theorem sumW_append (d : Int) (xs ys : List Gft) : sumW d (xs ++ ys) = sumW d xs + sumW d ys := by
  induction xs with
  | nil => simp [sumW]
  | cons x t ih => simp [sumW, ih]; omega
theorem sumW_take (d : Int) {xs : List Gft} {k : Nat} {x : Gft} (h : xs[k]? = some x) : sumW d (xs.take (k + 1)) = sumW d (xs.take k) + waitG d x := by
  rw [List.take_add_one, h, sumW_append]; simp [sumW]
def meanOk (xs : List Gft) (d : Int) : Bool := areG xs && inB d 0 4000 && decide (0 < (fil d xs).length)
def meanP (xs : List Gft) (d : Int) : Int × Int × Bool :=
  if meanOk xs d then ((sumW d (fil d xs)).tdiv (Nat.gcd (sumW d (fil d xs)).toNat (fil d xs).length), ((fil d xs).length : Int).tdiv (Nat.gcd (sumW d (fil d xs)).toNat (fil d xs).length), true) else (0, 0, false)
theorem MeanWait_c (a : Option Addr) (n c : Nat) (xs : List Gft) (d : Int) (w : World) (hr : Row w a 5 (xs.map encGft)) (hn : xs.length = n) (hm : n ≤ 1048577) :
    Calls Tryz.prog 10 #[.slice a n c, .int .i64 d] w fun e w' => e = .returned (.tuple #[.int .i64 (meanP xs d).1, .int .i64 (meanP xs d).2.1, .bool (meanP xs d).2.2]) ∧ E0 w w' := by
  refine enterK Non 50 Tryz.func10 rfl rfl rfl fun K hK => ?_
  repeat (any_goals (
    conv => whnf
    first
    | ((with_reducible refine BIF.dec ?_ ?_) <;> intro _)
    | ((with_reducible refine BIF.s ?_ ?_) <;> intro _)
    | (with_reducible refine NEXTK.normal ?_)
    | (with_reducible refine NEXTK.ret ?_)
    | (with_reducible refine NEXTK.exit ?_)
    | (with_reducible refine SEQ.plain ?_)
    | (with_reducible refine hK _ _ ?_)
    | ((with_reducible refine RUNL.agg (fun _ => ?_) ?_); (focus kernel_rfl))
    | (with_reducible refine RUNL.run ?_)
    | ((with_reducible refine AR.ok ?_ ?_); exact ⟨by first | omega | (dsimp only; omega), by first | omega | (dsimp only; omega)⟩)
    | (with_reducible refine AR.wr ?_)
    | ((with_reducible intro w3 e3); try have z3 := cutLe e3)
    | ((with_reducible intro h3); have h4 := Nat.le_of_lt h3; clear h4)))
  conv => whnf
  refine callY (g := 33) (by kernel_rfl) ⟨_, fun x => arrived_c _ _ _ xs d _ (hr.ext x (mAddr_Non _)) hn (by omega), fun r w5 e5 oA => ?_⟩
  have z5 := cutLe e5
  obtain ⟨ys, hys⟩ : ∃ ys, ys = fil d xs := ⟨_, rfl⟩
  rw [← hys] at oA
  obtain ⟨b5, d5, rfl, q5, p5⟩ := oA.rowx
  replace oA := oA.lo (lo' := w.heap.size) (by omega)
  by_cases ho : areG xs = true ∧ inB d 0 4000 = true ∧ 0 < ys.length
  · have hf : meanP xs d = ((sumW d ys).tdiv (Nat.gcd (sumW d ys).toNat ys.length), (ys.length : Int).tdiv (Nat.gcd (sumW d ys).toNat ys.length), true) := by rw [hys] at ho ⊢; simp [meanP, meanOk, ho]
    have hl := areG_len ho.1
    have hd := inB_iff.1 ho.2.1
    have hyl : ys.length ≤ 12 := by rw [hys]; exact Nat.le_trans (fil_len d xs) hl
    have hpos := ho.2.2
    repeat (any_goals (
      conv => whnf
      first
      | ((with_reducible refine callX (g := 26) ?_ ?_); kernel_rfl; intro hX; refine ⟨_, AreGifts_c _ _ _ xs _ (hr.ext hX (mAddr_Non _)) hn (by omega), ?_⟩; intro w4 e4; have z4 := cutLe e4; replace oA := oA.e0 e4)
      | ((with_reducible refine callF (g := 28) ?_ ?_); kernel_rfl; refine ⟨_, isDay_c _ _, ?_⟩; intro w4 e4; have z4 := cutLe e4; replace oA := oA.e0 e4)
      | ((with_reducible refine BIF.beq ?_ ?_) <;> intro _)
      | ((exfalso; omega))
      | ((exfalso; clear hK; simp_all; done))
      | ((with_reducible refine BIF.dec ?_ ?_) <;> intro _)
      | ((with_reducible refine BIF.s ?_ ?_) <;> intro _)
      | (with_reducible refine NEXTK.normal ?_)
      | (with_reducible refine NEXTK.ret ?_)
      | (with_reducible refine NEXTK.exit ?_)
      | (with_reducible refine SEQ.plain ?_)
      | (with_reducible refine hK _ _ ?_)
      | ((with_reducible refine RUNL.agg (fun _ => ?_) ?_); (focus kernel_rfl))
      | (with_reducible refine RUNL.run ?_)
      | ((with_reducible refine AR.ok ?_ ?_); exact ⟨by first | omega | (dsimp only; omega), by first | omega | (dsimp only; omega)⟩)
      | (with_reducible refine AR.wr ?_)
      | ((with_reducible intro w3 e3); try have z3 := cutLe e3)
      | ((with_reducible intro h3); have h4 := Nat.le_of_lt h3; clear h4)))
    conv => whnf
    refine LOOP.mk (Nat × Int) (fun t => [(31, .v (.int .i64 t.1)), (8, .v (.int .i64 t.2))]) (fun t wr => t.1 ≤ ys.length ∧ t.2 = sumW d (ys.take t.1) ∧ (0 ≤ t.2 ∧ t.2 ≤ 4000 * t.1) ∧ Own wr w.heap.size 41 5 (.slice b5 ys.length d5) (ys.map encGft)) (fun t => ys.length - t.1) (0, 0) rfl ⟨rfl, rfl, trivial⟩ ⟨Nat.zero_le _, by simp [sumW], by simp, oA⟩ ?_
    rintro ⟨j, s⟩ wr - ⟨hj, hs, hb, hown⟩
    simp only at hj hs hb hown
    have oL := fun k h => hown.block (k := k) h
    conv => whnf
    repeat (first | ((with_reducible refine NEXTK.normal ?_); conv => whnf) | ((with_reducible refine NEXTK.exit ?_); conv => whnf) | ((with_reducible refine NEXTK.ret ?_); conv => whnf) | ((with_reducible refine SEQ.plain ?_); conv => whnf) | ((with_reducible refine AR.ok ?_ ?_); exact ⟨by omega, by omega⟩; conv => whnf))
    refine BIF.dec (fun hlt => ?_) (fun hlt => ?_)
    · have hlt' : j < ys.length := by simp only at hlt; omega
      have his := hown.row.1.isSome (by simp; omega)
      obtain ⟨x, hx⟩ : ∃ x, ys[j]? = some x := ⟨ys[j]'(by omega), by simp⟩
      have hxm := fil_mem (d := d) (xs := xs) (x := x) (by rw [← hys]; exact List.mem_of_getElem? hx)
      have hok := areG_ok ho.1 x hxm.1
      have hwb := waitG_bnd hok hd hxm.2
      have ht := sumW_take d hx
      repeat (any_goals (
        conv => whnf
        first
        | ((with_reducible refine OBL.mk ?_ (fun _ => ?_)); exact ⟨by first | omega | (dsimp only; omega), by first | omega | (dsimp only; omega), his⟩)
        | ((with_reducible refine ELD.atNow (enc := encGft) (xs := ys) (j) hown.row.1 ?_ ?_ (fun x' hx' => ?_)); (first | rfl | omega); omega; obtain rfl : x = x' := by (rw [hx] at hx'; exact Option.some.inj hx'))
        | ((with_reducible intro w3 e3); have z3 := cutLe e3; replace hown := hown.ext e3 (by first | exact fun _ _ h => h | (intro k hk h; have hh := oL k hk; simp only [bk] at h; omega)))
        | ((with_reducible refine callF (g := 34) ?_ ?_); kernel_rfl; refine ⟨_, wait_c _ _ _ hok hd, ?_⟩; intro w4 e4; have z4 := cutLe e4; replace hown := hown.e0 e4)
        | ((with_reducible refine BIF.dec ?_ ?_) <;> intro _)
        | ((with_reducible refine BIF.s ?_ ?_) <;> intro _)
        | (with_reducible refine NEXTK.normal ?_)
        | (with_reducible refine NEXTK.ret ?_)
        | (with_reducible refine NEXTK.exit ?_)
        | (with_reducible refine SEQ.plain ?_)
        | (with_reducible refine hK _ _ ?_)
        | ((with_reducible refine RUNL.agg (fun _ => ?_) ?_); (focus kernel_rfl))
        | (with_reducible refine RUNL.run ?_)
        | ((with_reducible refine AR.ok ?_ ?_); exact ⟨by first | omega | (dsimp only; omega), by first | omega | (dsimp only; omega)⟩)
        | (with_reducible refine AR.wr ?_)
        | ((with_reducible intro w3 e3); try have z3 := cutLe e3)
        | ((with_reducible intro h3); have h4 := Nat.le_of_lt h3; clear h4)))
      refine ⟨(j + 1, s + waitG d x), rfl, ⟨rfl, rfl, trivial⟩, rfl, rfl, ⟨by simp only; omega, by simp only; omega, by simp only; omega, hown⟩, by simp only; omega⟩
    · have hkj : j = ys.length := by simp only at hlt; omega
      rw [hkj, List.take_length] at hs
      obtain ⟨S, hS⟩ : ∃ S : Nat, sumW d ys = S := ⟨(sumW d ys).toNat, by omega⟩
      rw [hS, Int.toNat_natCast] at hf
      have hsS : s = S := by omega
      subst hsS
      repeat (any_goals (
        conv => whnf
        first
        | ((with_reducible refine callF (g := 35) ?_ ?_); kernel_rfl; refine ⟨_, fraction_c S ys.length _ (by omega) (by omega), ?_⟩; intro w4 e4; have z4 := cutLe e4)
        | ((with_reducible refine BIF.dec ?_ ?_) <;> intro _)
        | ((with_reducible refine BIF.s ?_ ?_) <;> intro _)
        | (with_reducible refine NEXTK.normal ?_)
        | (with_reducible refine NEXTK.ret ?_)
        | (with_reducible refine NEXTK.exit ?_)
        | (with_reducible refine SEQ.plain ?_)
        | (with_reducible refine hK _ _ ?_)
        | ((with_reducible refine RUNL.agg (fun _ => ?_) ?_); (focus kernel_rfl))
        | (with_reducible refine RUNL.run ?_)
        | ((with_reducible refine AR.ok ?_ ?_); exact ⟨by first | omega | (dsimp only; omega), by first | omega | (dsimp only; omega)⟩)
        | (with_reducible refine AR.wr ?_)
        | ((with_reducible intro w3 e3); try have z3 := cutLe e3)
        | ((with_reducible intro h3); have h4 := Nat.le_of_lt h3; clear h4)))
      intro hx
      rw [hf]
      exact ⟨rfl, hx⟩
  · have hf : meanP xs d = (0, 0, false) := by
      unfold meanP meanOk
      rw [if_neg]
      rw [← hys]
      simpa [and_assoc] using ho
    repeat (any_goals (
      conv => whnf
      first
      | ((with_reducible refine callX (g := 26) ?_ ?_); kernel_rfl; intro hX; refine ⟨_, AreGifts_c _ _ _ xs _ (hr.ext hX (mAddr_Non _)) hn (by omega), ?_⟩; intro w4 e4; have z4 := cutLe e4)
      | ((with_reducible refine callF (g := 28) ?_ ?_); kernel_rfl; refine ⟨_, isDay_c _ _, ?_⟩; intro w4 e4; have z4 := cutLe e4)
      | ((with_reducible refine BIF.beq ?_ ?_) <;> intro _)
      | ((exfalso; refine ho ⟨?_, ?_, ?_⟩; simpa using (by assumption : (!areG xs) = false); simpa using (by assumption : (!inB d 0 4000) = false); omega))
      | ((with_reducible refine BIF.dec ?_ ?_) <;> intro _)
      | ((with_reducible refine BIF.s ?_ ?_) <;> intro _)
      | (with_reducible refine NEXTK.normal ?_)
      | (with_reducible refine NEXTK.ret ?_)
      | (with_reducible refine NEXTK.exit ?_)
      | (with_reducible refine SEQ.plain ?_)
      | (with_reducible refine hK _ _ ?_)
      | ((with_reducible refine RUNL.agg (fun _ => ?_) ?_); (focus kernel_rfl))
      | (with_reducible refine RUNL.run ?_)
      | ((with_reducible refine AR.ok ?_ ?_); exact ⟨by first | omega | (dsimp only; omega), by first | omega | (dsimp only; omega)⟩)
      | (with_reducible refine AR.wr ?_)
      | ((with_reducible intro w3 e3); try have z3 := cutLe e3)
      | ((with_reducible intro h3); have h4 := Nat.le_of_lt h3; clear h4)))
    all_goals
      intro hx
      rw [hf]
      exact ⟨rfl, hx⟩
theorem MeanWaitS_c (a : Option Addr) (n c : Nat) (xs : List Gft) (d : Int) (w : World) (hr : Row w a 5 (xs.map encGft)) (hn : xs.length = n) (hm : n ≤ 1048577) (hg : ∀ x ∈ xs, x.fGiver.size ≤ 9223372036854775807) :
    Calls Tryz.prog 11 #[.slice a n c, .int .i64 d] w fun e w' => e = .returned (.tuple #[.int .i64 (meanP xs d).1, .int .i64 (meanP xs d).2.1, .bool (meanP xs d).2.2]) ∧ E0 w w' := by
  refine enterK Non 53 Tryz.func11 rfl rfl rfl fun K hK => ?_
  by_cases ho : areG xs = true ∧ inB d 0 4000 = true
  · have hl := areG_len ho.1
    have hd := inB_iff.1 ho.2
    repeat (any_goals (
      conv => whnf
      first
      | ((with_reducible refine callF (g := 30) ?_ ?_); kernel_rfl; refine ⟨_, l26Good_c _ _ _ xs _ (by repeat (first | assumption | refine Row.e0 ?_ (by assumption))) hn (by omega) hg, ?_⟩; intro w4 e4; have z4 := cutLe e4)
      | ((with_reducible refine callF (g := 32) ?_ ?_); kernel_rfl; refine ⟨_, l2Day_c _ _, ?_⟩; intro w4 e4; have z4 := cutLe e4)
      | ((exfalso; clear hK; simp_all; done))
      | ((with_reducible refine BIF.dec ?_ ?_) <;> intro _)
      | ((with_reducible refine BIF.s ?_ ?_) <;> intro _)
      | (with_reducible refine NEXTK.normal ?_)
      | (with_reducible refine NEXTK.ret ?_)
      | (with_reducible refine NEXTK.exit ?_)
      | (with_reducible refine SEQ.plain ?_)
      | (with_reducible refine hK _ _ ?_)
      | ((with_reducible refine RUNL.agg (fun _ => ?_) ?_); (focus kernel_rfl))
      | (with_reducible refine RUNL.run ?_)
      | ((with_reducible refine AR.ok ?_ ?_); exact ⟨by first | omega | (dsimp only; omega), by first | omega | (dsimp only; omega)⟩)
      | (with_reducible refine AR.wr ?_)
      | ((with_reducible intro w3 e3); try have z3 := cutLe e3)
      | ((with_reducible intro h3); have h4 := Nat.le_of_lt h3; clear h4)))
    conv => whnf
    refine LOOP.mk (Nat × Int × Nat) (fun t => [(9, .v (.int .i64 t.1)), (7, .v (.int .i64 t.2.1)), (8, .v (.int .i64 t.2.2))]) (fun t _ => t.1 ≤ n ∧ t.2.1 = sumW d (fil d (xs.take t.1)) ∧ (0 ≤ t.2.1 ∧ t.2.1 ≤ 4000 * t.1) ∧ t.2.2 = (fil d (xs.take t.1)).length ∧ t.2.2 ≤ t.1) (fun t => n - t.1) (0, 0, 0) rfl ⟨rfl, rfl, rfl, trivial⟩ ⟨Nat.zero_le _, by simp [sumW, fil], by simp, by simp [fil], Nat.le_refl _⟩ ?_
    rintro ⟨j, s, m⟩ wr - ⟨hj, hs, hb, hmm, hmj⟩
    simp only at hj hs hb hmm hmj
    conv => whnf
    repeat (first | ((with_reducible refine NEXTK.normal ?_); conv => whnf) | ((with_reducible refine NEXTK.exit ?_); conv => whnf) | ((with_reducible refine NEXTK.ret ?_); conv => whnf) | ((with_reducible refine SEQ.plain ?_); conv => whnf) | ((with_reducible refine AR.ok ?_ ?_); exact ⟨by omega, by omega⟩; conv => whnf))
    refine BIF.dec (fun hlt => ?_) (fun hlt => ?_)
    · have hlt' : j < xs.length := by simp only at hlt; omega
      have his := hr.isSome (by simp; omega)
      obtain ⟨x, hx⟩ : ∃ x, xs[j]? = some x := ⟨xs[j]'(by omega), by simp⟩
      have hok := areG_at ho.1 hx
      have hft := fil_take (d := d) hx
      by_cases hxd : x.fDay ≤ d
      · have hwb := waitG_bnd hok hd hxd
        rw [if_pos hxd] at hft
        repeat (any_goals (
          conv => whnf
          first
          | ((with_reducible refine OBL.mk ?_ (fun _ => ?_)); exact ⟨by first | omega | (dsimp only; omega), by first | omega | (dsimp only; omega), his⟩)
          | ((with_reducible refine ELD.at (j) hr ?_ ?_ ?_ (fun x' hx' => ?_)); exact mAddr_Non _; (first | rfl | omega); exact hlt'; obtain rfl : x = x' := by (rw [hx] at hx'; exact Option.some.inj hx'))
          | ((with_reducible refine callF (g := 36) ?_ ?_); kernel_rfl; refine ⟨_, l26Wait_c _ _ _ hok hd, ?_⟩; intro w4 e4; have z4 := cutLe e4)
          | ((exfalso; omega))
          | ((with_reducible refine BIF.dec ?_ ?_) <;> intro _)
          | ((with_reducible refine BIF.s ?_ ?_) <;> intro _)
          | (with_reducible refine NEXTK.normal ?_)
          | (with_reducible refine NEXTK.ret ?_)
          | (with_reducible refine NEXTK.exit ?_)
          | (with_reducible refine SEQ.plain ?_)
          | (with_reducible refine hK _ _ ?_)
          | ((with_reducible refine RUNL.agg (fun _ => ?_) ?_); (focus kernel_rfl))
          | (with_reducible refine RUNL.run ?_)
          | ((with_reducible refine AR.ok ?_ ?_); exact ⟨by first | omega | (dsimp only; omega), by first | omega | (dsimp only; omega)⟩)
          | (with_reducible refine AR.wr ?_)
          | ((with_reducible intro w3 e3); try have z3 := cutLe e3)
          | ((with_reducible intro h3); have h4 := Nat.le_of_lt h3; clear h4)))
        refine ⟨(j + 1, s + waitG d x, m + 1), rfl, ⟨rfl, rfl, rfl, trivial⟩, rfl, rfl, ⟨by simp only; omega, ?_, by simp only; omega, ?_, by simp only; omega⟩, by simp only; omega⟩
        · simp only; rw [hft, sumW_append, hs]; simp [sumW]
        · simp only; rw [hft, List.length_append, hmm]; rfl
      · rw [if_neg hxd, List.append_nil] at hft
        repeat (any_goals (
          conv => whnf
          first
          | ((with_reducible refine OBL.mk ?_ (fun _ => ?_)); exact ⟨by first | omega | (dsimp only; omega), by first | omega | (dsimp only; omega), his⟩)
          | ((with_reducible refine ELD.at (j) hr ?_ ?_ ?_ (fun x' hx' => ?_)); exact mAddr_Non _; (first | rfl | omega); exact hlt'; obtain rfl : x = x' := by (rw [hx] at hx'; exact Option.some.inj hx'))
          | ((exfalso; omega))
          | ((with_reducible refine BIF.dec ?_ ?_) <;> intro _)
          | ((with_reducible refine BIF.s ?_ ?_) <;> intro _)
          | (with_reducible refine NEXTK.normal ?_)
          | (with_reducible refine NEXTK.ret ?_)
          | (with_reducible refine NEXTK.exit ?_)
          | (with_reducible refine SEQ.plain ?_)
          | (with_reducible refine hK _ _ ?_)
          | ((with_reducible refine RUNL.agg (fun _ => ?_) ?_); (focus kernel_rfl))
          | (with_reducible refine RUNL.run ?_)
          | ((with_reducible refine AR.ok ?_ ?_); exact ⟨by first | omega | (dsimp only; omega), by first | omega | (dsimp only; omega)⟩)
          | (with_reducible refine AR.wr ?_)
          | ((with_reducible intro w3 e3); try have z3 := cutLe e3)
          | ((with_reducible intro h3); have h4 := Nat.le_of_lt h3; clear h4)))
        refine ⟨(j + 1, s, m), rfl, ⟨rfl, rfl, rfl, trivial⟩, rfl, rfl, ⟨by simp only; omega, by simp only; rw [hft, hs], by simp only; omega, by simp only; rw [hft, hmm], by simp only; omega⟩, by simp only; omega⟩
    · have hkj : j = xs.length := by simp only at hlt; omega
      rw [hkj, List.take_length] at hs hmm
      by_cases hm0 : m = 0
      · have hf : meanP xs d = (0, 0, false) := by
          unfold meanP meanOk
          rw [if_neg]
          rw [← hmm, hm0]; simp
        subst hm0
        repeat (any_goals (
          conv => whnf
          first
          | ((with_reducible refine BIF.beq ?_ ?_) <;> intro hbq)
          | ((exfalso; (first | omega | (dsimp only at hbq; omega))))
          | ((with_reducible refine BIF.dec ?_ ?_) <;> intro _)
          | ((with_reducible refine BIF.s ?_ ?_) <;> intro _)
          | (with_reducible refine NEXTK.normal ?_)
          | (with_reducible refine NEXTK.ret ?_)
          | (with_reducible refine NEXTK.exit ?_)
          | (with_reducible refine SEQ.plain ?_)
          | (with_reducible refine hK _ _ ?_)
          | ((with_reducible refine RUNL.agg (fun _ => ?_) ?_); (focus kernel_rfl))
          | (with_reducible refine RUNL.run ?_)
          | ((with_reducible refine AR.ok ?_ ?_); exact ⟨by first | omega | (dsimp only; omega), by first | omega | (dsimp only; omega)⟩)
          | (with_reducible refine AR.wr ?_)
          | ((with_reducible intro w3 e3); try have z3 := cutLe e3)
          | ((with_reducible intro h3); have h4 := Nat.le_of_lt h3; clear h4)))
        intro hx
        rw [hf]
        exact ⟨rfl, hx⟩
      · obtain ⟨S, hS⟩ : ∃ S : Nat, s = S := ⟨s.toNat, by omega⟩
        have hf : meanP xs d = ((S : Int).tdiv (Nat.gcd S m), (m : Int).tdiv (Nat.gcd S m), true) := by
          unfold meanP meanOk
          rw [← hs, ← hmm, hS, Int.toNat_natCast]
          rw [if_pos (by simp [ho]; omega)]
        subst hS
        repeat (any_goals (
          conv => whnf
          first
          | ((with_reducible refine BIF.beq ?_ ?_) <;> intro hbq)
          | ((exfalso; (first | omega | (dsimp only at hbq; omega))))
          | ((with_reducible refine callF (g := 37) ?_ ?_); kernel_rfl; refine ⟨_, l2Reduce_c S m _ (by omega) (by omega), ?_⟩; intro w4 e4; have z4 := cutLe e4)
          | ((with_reducible refine BIF.dec ?_ ?_) <;> intro _)
          | ((with_reducible refine BIF.s ?_ ?_) <;> intro _)
          | (with_reducible refine NEXTK.normal ?_)
          | (with_reducible refine NEXTK.ret ?_)
          | (with_reducible refine NEXTK.exit ?_)
          | (with_reducible refine SEQ.plain ?_)
          | (with_reducible refine hK _ _ ?_)
          | ((with_reducible refine RUNL.agg (fun _ => ?_) ?_); (focus kernel_rfl))
          | (with_reducible refine RUNL.run ?_)
          | ((with_reducible refine AR.ok ?_ ?_); exact ⟨by first | omega | (dsimp only; omega), by first | omega | (dsimp only; omega)⟩)
          | (with_reducible refine AR.wr ?_)
          | ((with_reducible intro w3 e3); try have z3 := cutLe e3)
          | ((with_reducible intro h3); have h4 := Nat.le_of_lt h3; clear h4)))
        intro hx
        rw [hf]
        exact ⟨rfl, hx⟩
  · have hf : meanP xs d = (0, 0, false) := by
      unfold meanP meanOk
      rw [if_neg]
      simp only [Bool.and_eq_true]
      exact fun h => ho h.1
    repeat (any_goals (
      conv => whnf
      first
      | ((with_reducible refine callF (g := 30) ?_ ?_); kernel_rfl; refine ⟨_, l26Good_c _ _ _ xs _ (by repeat (first | assumption | refine Row.e0 ?_ (by assumption))) hn (by omega) hg, ?_⟩; intro w4 e4; have z4 := cutLe e4)
      | ((with_reducible refine callF (g := 32) ?_ ?_); kernel_rfl; refine ⟨_, l2Day_c _ _, ?_⟩; intro w4 e4; have z4 := cutLe e4)
      | ((exfalso; clear hK; simp_all; done))
      | ((with_reducible refine BIF.dec ?_ ?_) <;> intro _)
      | ((with_reducible refine BIF.s ?_ ?_) <;> intro _)
      | (with_reducible refine NEXTK.normal ?_)
      | (with_reducible refine NEXTK.ret ?_)
      | (with_reducible refine NEXTK.exit ?_)
      | (with_reducible refine SEQ.plain ?_)
      | (with_reducible refine hK _ _ ?_)
      | ((with_reducible refine RUNL.agg (fun _ => ?_) ?_); (focus kernel_rfl))
      | (with_reducible refine RUNL.run ?_)
      | ((with_reducible refine AR.ok ?_ ?_); exact ⟨by first | omega | (dsimp only; omega), by first | omega | (dsimp only; omega)⟩)
      | (with_reducible refine AR.wr ?_)
      | ((with_reducible intro w3 e3); try have z3 := cutLe e3)
      | ((with_reducible intro h3); have h4 := Nat.le_of_lt h3; clear h4)))
    all_goals
      intro hx
      rw [hf]
      exact ⟨rfl, hx⟩

end Go.Proofs.YtohnoccmaeegdaaGreatDoor

/- What else the law calls. -/
import Derived.Test.YtpddilkonkkppaaGreatDoorRows
import Derived.Test.YtpddilkonkkppaaGreatDoorTwo2
namespace Go.Proofs.YtpddilkonkkppaaGreatDoor
open Go Go.X Go.Proofs Go.ChangeShapes Go.WideShapes Go.ChangeAt Go.RowKit
open Go.ChangeMaps (open_string shut_string)
set_option maxHeartbeats 1000000
set_option maxRecDepth 20000
set_option linter.unusedVariables false
set_option linter.unusedSimpArgs false
def sumE (es : List Ent) : Int := es.foldl (fun s x => s + x.fCount) 0
theorem sumE_take {es : List Ent} {k : Nat} {x : Ent} (h : es[k]? = some x) : sumE (es.take (k + 1)) = sumE (es.take k) + x.fCount := by
  unfold sumE
  rw [List.take_add_one, h, List.foldl_append]; rfl
theorem CopiesOf_c (a : Option Addr) (n c : Nat) (ts : List Tri) (w : World) (hr : Row w a 6 (ts.map encT)) (hs : SeenAt w ts) (hn : ts.length = n) (hm : n ≤ 1048577) (hc : n ≤ c) (hz : ∀ t ∈ ts, t.1.fSeen.length ≤ 1048577) :
    Calls Tryz.prog 22 #[.slice a n c] w fun e w' => e = .returned (.tuple #[.int .i64 (if areE (ts.map (·.1)) then sumE (ts.map (·.1)) else 0), .bool (areE (ts.map (·.1)))]) ∧ E0 w w' := by
  refine enterK Non 22 Tryz.func22 rfl rfl rfl fun K hK => ?_
  cases hA : areE (ts.map (·.1)) with
  | false =>
    repeat (any_goals (
      conv => whnf
      first
      | ((with_reducible refine callF (g := 19) ?_ ?_); kernel_rfl; refine ⟨_, AreEntries_c _ _ _ ts _ (by repeat (first | assumption | refine Row.e0 ?_ (by assumption))) (by exact hs) hn hm hc hz, ?_⟩; intro w4 e4; have z4 := cutLe e4)
      | ((with_reducible refine BIF.s (fun h => absurd h ?_) (fun _ => ?_)); focus (simp [hA]; done))
      | ((with_reducible refine BIF.s (fun _ => ?_) (fun h => absurd h ?_)); rotate_left; focus (simp [hA]; done))
      | ((with_reducible refine BIF.dec ?_ ?_) <;> intro _)
      | ((with_reducible refine BIF.s ?_ ?_) <;> intro _)
      | (with_reducible refine NEXTK.normal ?_)
      | (with_reducible refine NEXTK.ret ?_)
      | (with_reducible refine NEXTK.exit ?_)
      | (with_reducible refine SEQ.plain ?_)
      | (with_reducible refine hK _ _ ?_)
      | ((with_reducible refine RUNL.agg (fun _ => ?_) ?_); (focus kernel_rfl))
      | (with_reducible refine RUNL.run ?_)
      | ((with_reducible refine AR.ok ?_ ?_); exact ⟨by first | omega | (dsimp only; omega), by first | omega | (dsimp only; omega)⟩)
      | (with_reducible refine AR.wr ?_)
      | ((with_reducible intro w3 e3); try have z3 := cutLe e3)
      | ((with_reducible intro h3); have h4 := Nat.le_of_lt h3; clear h4)))
    intro hx
    rw [hA]
    exact ⟨rfl, hx⟩
  | true =>
    obtain ⟨h12, hz2, -, -⟩ := areE_bnd hA
    have hc2 : ∀ t ∈ ts, 0 ≤ t.1.fCount ∧ t.1.fCount ≤ 99 := fun t ht => by
      obtain ⟨k, hk⟩ := List.getElem?_of_mem ht
      exact (okE_facts (areE_at hA (fst_at hk)).1).2.2.2.1
    repeat (any_goals (
      conv => whnf
      first
      | ((with_reducible refine callF (g := 19) ?_ ?_); kernel_rfl; refine ⟨_, AreEntries_c _ _ _ ts _ (by repeat (first | assumption | refine Row.e0 ?_ (by assumption))) (by exact hs) hn hm hc hz, ?_⟩; intro w4 e4; have z4 := cutLe e4)
      | ((with_reducible refine BIF.s (fun h => absurd h ?_) (fun _ => ?_)); focus (simp [hA]; done))
      | ((with_reducible refine BIF.s (fun _ => ?_) (fun h => absurd h ?_)); rotate_left; focus (simp [hA]; done))
      | ((with_reducible refine BIF.dec ?_ ?_) <;> intro _)
      | ((with_reducible refine BIF.s ?_ ?_) <;> intro _)
      | (with_reducible refine NEXTK.normal ?_)
      | (with_reducible refine NEXTK.ret ?_)
      | (with_reducible refine NEXTK.exit ?_)
      | (with_reducible refine SEQ.plain ?_)
      | (with_reducible refine hK _ _ ?_)
      | ((with_reducible refine RUNL.agg (fun _ => ?_) ?_); (focus kernel_rfl))
      | (with_reducible refine RUNL.run ?_)
      | ((with_reducible refine AR.ok ?_ ?_); exact ⟨by first | omega | (dsimp only; omega), by first | omega | (dsimp only; omega)⟩)
      | (with_reducible refine AR.wr ?_)
      | ((with_reducible intro w3 e3); try have z3 := cutLe e3)
      | ((with_reducible intro h3); have h4 := Nat.le_of_lt h3; clear h4)))
    conv => whnf
    refine LOOP.mk (Nat × Int) (fun g => [(12, .v (.int .i64 g.1)), (4, .v (.int .i64 g.2))]) (fun g _ => g.1 ≤ n ∧ g.2 = sumE ((ts.map (·.1)).take g.1) ∧ 0 ≤ g.2 ∧ g.2 ≤ 99 * g.1) (fun g => n - g.1) (0, 0) rfl ⟨rfl, rfl, trivial⟩ ⟨Nat.zero_le _, rfl, by simp only; omega, by simp only; omega⟩ ?_
    rintro ⟨k, s⟩ wr hX0 ⟨hk, hs1, h0, h1⟩
    simp only at hk hs1 h0 h1
    dsimp only
    conv => whnf
    repeat (first | ((with_reducible refine NEXTK.normal ?_); conv => whnf) | ((with_reducible refine NEXTK.exit ?_); conv => whnf) | ((with_reducible refine NEXTK.ret ?_); conv => whnf) | ((with_reducible refine SEQ.plain ?_); conv => whnf) | ((with_reducible refine AR.ok ?_ ?_); exact ⟨by omega, by omega⟩; conv => whnf))
    refine BIF.dec (fun hlt => ?_) (fun hlt => ?_)
    · have hlt' : k < ts.length := by omega
      have his := hr.isSome (by simp; omega)
      obtain ⟨t, ht⟩ : ∃ t, ts[k]? = some t := ⟨ts[k], by simp⟩
      have hct := hc2 t (List.mem_of_getElem? ht)
      have hst := sumE_take (fst_at ht)
      repeat (any_goals (
        conv => whnf
        first
        | ((with_reducible refine OBL.mk ?_ (fun _ => ?_)); exact ⟨by first | omega | (dsimp only; omega), by first | omega | (dsimp only; omega), his⟩)
        | ((with_reducible refine ELD.at (k) hr ?_ ?_ ?_ (fun x' hx' => ?_)); exact mAddr_Non _; (first | rfl | omega); exact hlt'; obtain rfl : t = x' := by (rw [ht] at hx'; exact Option.some.inj hx'))
        | ((with_reducible refine BIF.dec ?_ ?_) <;> intro _)
        | ((with_reducible refine BIF.s ?_ ?_) <;> intro _)
        | (with_reducible refine NEXTK.normal ?_)
        | (with_reducible refine NEXTK.ret ?_)
        | (with_reducible refine NEXTK.exit ?_)
        | (with_reducible refine SEQ.plain ?_)
        | (with_reducible refine hK _ _ ?_)
        | ((with_reducible refine RUNL.agg (fun _ => ?_) ?_); (focus kernel_rfl))
        | (with_reducible refine RUNL.run ?_)
        | ((with_reducible refine AR.ok ?_ ?_); exact ⟨by first | omega | (dsimp only; omega), by first | omega | (dsimp only; omega)⟩)
        | (with_reducible refine AR.wr ?_)
        | ((with_reducible intro w3 e3); try have z3 := cutLe e3)
        | ((with_reducible intro h3); have h4 := Nat.le_of_lt h3; clear h4)))
      exact ⟨(k + 1, s + t.1.fCount), rfl, ⟨rfl, rfl, trivial⟩, rfl, rfl, ⟨by simp only; omega, by simp only [hst, hs1], by simp only; omega, by simp only; omega⟩, by simp only; omega⟩
    · have hkn : k = n := by omega
      repeat (any_goals (
        conv => whnf
        first
        | ((with_reducible refine BIF.dec ?_ ?_) <;> intro _)
        | ((with_reducible refine BIF.s ?_ ?_) <;> intro _)
        | (with_reducible refine NEXTK.normal ?_)
        | (with_reducible refine NEXTK.ret ?_)
        | (with_reducible refine NEXTK.exit ?_)
        | (with_reducible refine SEQ.plain ?_)
        | (with_reducible refine hK _ _ ?_)
        | ((with_reducible refine RUNL.agg (fun _ => ?_) ?_); (focus kernel_rfl))
        | (with_reducible refine RUNL.run ?_)
        | ((with_reducible refine AR.ok ?_ ?_); exact ⟨by first | omega | (dsimp only; omega), by first | omega | (dsimp only; omega)⟩)
        | (with_reducible refine AR.wr ?_)
        | ((with_reducible intro w3 e3); try have z3 := cutLe e3)
        | ((with_reducible intro h3); have h4 := Nat.le_of_lt h3; clear h4)))
      intro hx
      refine ⟨?_, hx⟩
      rw [hs1, hA, List.take_of_length_le (by rw [List.length_map]; omega)]; rfl
def findB (es : List Ent) (s : Int) : Bool := areE es && inB s 1 999 && decide (0 ≤ idxP (knowsB s) es)
theorem FindEntry_c (a : Option Addr) (n c : Nat) (ts : List Tri) (s : Int) (w : World) (hr : Row w a 6 (ts.map encT)) (hs : SeenAt w ts) (hn : ts.length = n) (hm : n ≤ 1048577) (hc : n ≤ c) (hz : ∀ t ∈ ts, t.1.fSeen.length ≤ 1048577) (hf : findB (ts.map (·.1)) s = true) :
    Calls Tryz.prog 23 #[.slice a n c, .int .i64 s] w fun e w' => ∃ v, e = .returned v ∧ E0 w w' ∧ ∃ z : Int, v = .tuple #[.int .i64 z, .bool true] := by
  refine enterK Non 27 Tryz.func23 rfl rfl rfl fun K hK => ?_
  have hf2 := hf
  unfold findB at hf2
  simp only [Bool.and_eq_true, decide_eq_true_eq] at hf2
  obtain ⟨⟨hA, hid⟩, hi⟩ := hf2
  rcases idxP_spec (knowsB s) (ts.map (·.1)) with ⟨h1, -⟩ | ⟨k, x, hk, hkl, hx, -, -⟩
  · omega
  · obtain ⟨t, ht, -⟩ := fst_in hx
    have hlt' := (List.getElem?_eq_some_iff.1 ht).1
    have his := hr.isSome (by simp; omega)
    repeat (any_goals (
      conv => whnf
      first
      | ((with_reducible refine callF (g := 46) ?_ ?_); kernel_rfl; refine ⟨_, entryOf_c _ _ _ ts s _ (by repeat (first | assumption | refine Row.e0 ?_ (by assumption))) (by exact hs) hn hm hz, ?_⟩; intro w4 e4; have z4 := cutLe e4)
      | ((with_reducible refine callX (g := 19) ?_ ?_); kernel_rfl; intro hX; refine ⟨_, AreEntries_c _ _ _ ts _ (hr.ext hX (mAddr_Non _)) (fun u hu => (hs u hu).ext hX (mAddr_Non _)) hn hm hc hz, ?_⟩; intro w4 e4; have z4 := cutLe e4)
      | ((with_reducible refine callF (g := 51) ?_ ?_); kernel_rfl; refine ⟨_, isId_c _ _, ?_⟩; intro w4 e4; have z4 := cutLe e4)
      | ((with_reducible refine BIF.s (fun h => absurd h ?_) (fun _ => ?_)); focus (simp [hA]; done))
      | ((with_reducible refine BIF.s (fun _ => ?_) (fun h => absurd h ?_)); rotate_left; focus (simp [hA]; done))
      | ((with_reducible refine BIF.s (fun h => absurd h ?_) (fun _ => ?_)); focus (simp [hid]; done))
      | ((with_reducible refine BIF.s (fun _ => ?_) (fun h => absurd h ?_)); rotate_left; focus (simp [hid]; done))
      | ((with_reducible refine BIF.dec (fun h => absurd h (by omega)) (fun _ => ?_)))
      | ((with_reducible refine OBL.mk ?_ (fun _ => ?_)); exact ⟨by first | omega | (dsimp only; omega), by first | omega | (dsimp only; omega), his⟩)
      | ((with_reducible refine ELD.at (k) hr ?_ ?_ ?_ (fun x' hx' => ?_)); exact mAddr_Non _; (first | rfl | omega); exact hlt'; obtain rfl : t = x' := by (rw [ht] at hx'; exact Option.some.inj hx'))
      | ((with_reducible refine BIF.dec ?_ ?_) <;> intro _)
      | ((with_reducible refine BIF.s ?_ ?_) <;> intro _)
      | (with_reducible refine NEXTK.normal ?_)
      | (with_reducible refine NEXTK.ret ?_)
      | (with_reducible refine NEXTK.exit ?_)
      | (with_reducible refine SEQ.plain ?_)
      | (with_reducible refine hK _ _ ?_)
      | ((with_reducible refine RUNL.agg (fun _ => ?_) ?_); (focus kernel_rfl))
      | (with_reducible refine RUNL.run ?_)
      | ((with_reducible refine AR.ok ?_ ?_); exact ⟨by first | omega | (dsimp only; omega), by first | omega | (dsimp only; omega)⟩)
      | (with_reducible refine AR.wr ?_)
      | ((with_reducible intro w3 e3); try have z3 := cutLe e3)
      | ((with_reducible intro h3); have h4 := Nat.le_of_lt h3; clear h4)))
    intro hx'
    exact ⟨_, rfl, hx', _, rfl⟩
theorem AreEntriesS_c (a : Option Addr) (n c : Nat) (ts : List Tri) (w : World) (hr : Row w a 6 (ts.map encT)) (hs : SeenAt w ts) (hn : ts.length = n) (hm : n ≤ 1048577) (hg : sizT ts) :
    Calls Tryz.prog 20 #[.slice a n c] w fun e w' => e = .returned (.bool (areE (ts.map (·.1)))) ∧ E0 w w' := by
  refine enterK Non 5 Tryz.func20 rfl rfl rfl fun K hK => ?_
  repeat (any_goals (
    conv => whnf
    first
    | ((with_reducible refine callF (g := 50) ?_ ?_); kernel_rfl; refine ⟨_, l25Good_c _ _ _ ts _ (by repeat (first | assumption | refine Row.e0 ?_ (by assumption))) (by exact hs) hn hm hg, ?_⟩; intro w4 e4; have z4 := cutLe e4)
    | ((with_reducible refine BIF.dec ?_ ?_) <;> intro _)
    | ((with_reducible refine BIF.s ?_ ?_) <;> intro _)
    | (with_reducible refine NEXTK.normal ?_)
    | (with_reducible refine NEXTK.ret ?_)
    | (with_reducible refine NEXTK.exit ?_)
    | (with_reducible refine SEQ.plain ?_)
    | (with_reducible refine hK _ _ ?_)
    | ((with_reducible refine RUNL.agg (fun _ => ?_) ?_); (focus kernel_rfl))
    | (with_reducible refine RUNL.run ?_)
    | ((with_reducible refine AR.ok ?_ ?_); exact ⟨by first | omega | (dsimp only; omega), by first | omega | (dsimp only; omega)⟩)
    | (with_reducible refine AR.wr ?_)
    | ((with_reducible intro w3 e3); try have z3 := cutLe e3)
    | ((with_reducible intro h3); have h4 := Nat.le_of_lt h3; clear h4)))
  intro hx
  exact ⟨rfl, hx⟩
def pairA (es : List Ent) (p q : Int) : Bool := pairOk es p q && alikeAt es (loI es p q).toNat (hiI es p q).toNat
theorem pairA_ok {es : List Ent} {p q : Int} {i k : Nat} {x y : Ent} (h : pairOk es p q = true) (h1 : loI es p q = i) (h2 : hiI es p q = k) (hx : es[i]? = some x) (hy : es[k]? = some y) : pairA es p q = alikeB x y := by
  unfold pairA
  rw [h, h1, h2, Int.toNat_natCast, Int.toNat_natCast, alikeAt_get hx hy, Bool.true_and]
theorem AreAlike_c (a : Option Addr) (n c : Nat) (ts : List Tri) (p q : Int) (w : World) (hr : Row w a 6 (ts.map encT)) (hs : SeenAt w ts) (hn : ts.length = n) (hm : n ≤ 1048577) (hc : n ≤ c) (hz : ∀ t ∈ ts, t.1.fSeen.length ≤ 1048577) :
    Calls Tryz.prog 28 #[.slice a n c, .int .i64 p, .int .i64 q] w fun e w' => e = .returned (.tuple #[.bool (pairA (ts.map (·.1)) p q), .bool (pairOk (ts.map (·.1)) p q)]) ∧ E0 w w' := by
  refine enterK Non 32 Tryz.func28 rfl rfl rfl fun K hK => ?_
  cases hok : pairOk (ts.map (·.1)) p q with
  | false =>
    have hf : pairA (ts.map (·.1)) p q = false := by unfold pairA; rw [hok]; rfl
    have hpo : ∀ w', E0 w w' → Calls Tryz.prog 36 #[.slice a n c, .int .i64 p, .int .i64 q] w' fun e w'' => e = .returned (.tuple #[.int .i64 (loI (ts.map (·.1)) p q), .int .i64 (hiI (ts.map (·.1)) p q), .bool false]) ∧ E0 w' w'' := fun w' e => by
      have := pairOf_c a n c ts p q w' (hr.e0 e) (hs.e0 e) hn hm hc hz
      rw [hok] at this
      exact this
    repeat (any_goals (
      conv => whnf
      first
      | ((with_reducible refine BIF.dec ?_ ?_) <;> intro _)
      | ((with_reducible refine BIF.s ?_ ?_) <;> intro _)
      | (with_reducible refine NEXTK.normal ?_)
      | (with_reducible refine NEXTK.ret ?_)
      | (with_reducible refine NEXTK.exit ?_)
      | (with_reducible refine SEQ.plain ?_)
      | (with_reducible refine hK _ _ ?_)
      | ((with_reducible refine RUNL.agg (fun _ => ?_) ?_); (focus kernel_rfl))
      | (with_reducible refine RUNL.run ?_)
      | ((with_reducible refine AR.ok ?_ ?_); exact ⟨by first | omega | (dsimp only; omega), by first | omega | (dsimp only; omega)⟩)
      | (with_reducible refine AR.wr ?_)
      | ((with_reducible intro w3 e3); try have z3 := cutLe e3)
      | ((with_reducible intro h3); have h4 := Nat.le_of_lt h3; clear h4)))
    conv => whnf
    refine callX (g := 36) (by kernel_rfl) (fun hX => ⟨_, hpo _ hX, fun w4 e4 => ?_⟩)
    have z4 := cutLe e4
    repeat (any_goals (
      conv => whnf
      first
      | ((with_reducible refine DRAW.quietE ?_ ?_ ?_); kernel_rfl; kernel_rfl)
      | ((with_reducible refine BIF.s (fun h => absurd h ?_) (fun _ => ?_)); focus (first | (simp; done) | (simp; omega)))
      | ((with_reducible refine BIF.s (fun _ => ?_) (fun h => absurd h ?_)); rotate_left; focus (first | (simp; done) | (simp; omega)))
      | ((with_reducible refine BIF.dec ?_ ?_) <;> intro _)
      | ((with_reducible refine BIF.s ?_ ?_) <;> intro _)
      | (with_reducible refine NEXTK.normal ?_)
      | (with_reducible refine NEXTK.ret ?_)
      | (with_reducible refine NEXTK.exit ?_)
      | (with_reducible refine SEQ.plain ?_)
      | (with_reducible refine hK _ _ ?_)
      | ((with_reducible refine RUNL.agg (fun _ => ?_) ?_); (focus kernel_rfl))
      | (with_reducible refine RUNL.run ?_)
      | ((with_reducible refine AR.ok ?_ ?_); exact ⟨by first | omega | (dsimp only; omega), by first | omega | (dsimp only; omega)⟩)
      | (with_reducible refine AR.wr ?_)
      | ((with_reducible intro w3 e3); try have z3 := cutLe e3)
      | ((with_reducible intro h3); have h4 := Nat.le_of_lt h3; clear h4)))
    all_goals
      intro hx'
      rw [hf, hok]
      exact ⟨rfl, hx'⟩
  | true =>
    obtain ⟨i, k, x, y, h1, h2, hik, hkl, hx, hy, hA, -, -, -, -⟩ := pair_at hok
    obtain ⟨tx, htx, hex⟩ := fst_in hx
    obtain ⟨ty, hty, hey⟩ := fst_in hy
    have hf := pairA_ok hok h1 h2 hx hy
    rw [← hex, ← hey] at hf
    have hlt1 := (List.getElem?_eq_some_iff.1 htx).1
    have hlt2 := (List.getElem?_eq_some_iff.1 hty).1
    have his := hr.isSome (by simp; omega)
    have hpo : ∀ w', E0 w w' → Calls Tryz.prog 36 #[.slice a n c, .int .i64 p, .int .i64 q] w' fun e w'' => e = .returned (.tuple #[.int .i64 i, .int .i64 k, .bool true]) ∧ E0 w' w'' := fun w' e => by
      have := pairOf_c a n c ts p q w' (hr.e0 e) (hs.e0 e) hn hm hc hz
      rw [h1, h2, hok] at this
      exact this
    repeat (any_goals (
      conv => whnf
      first
      | ((with_reducible refine BIF.dec ?_ ?_) <;> intro _)
      | ((with_reducible refine BIF.s ?_ ?_) <;> intro _)
      | (with_reducible refine NEXTK.normal ?_)
      | (with_reducible refine NEXTK.ret ?_)
      | (with_reducible refine NEXTK.exit ?_)
      | (with_reducible refine SEQ.plain ?_)
      | (with_reducible refine hK _ _ ?_)
      | ((with_reducible refine RUNL.agg (fun _ => ?_) ?_); (focus kernel_rfl))
      | (with_reducible refine RUNL.run ?_)
      | ((with_reducible refine AR.ok ?_ ?_); exact ⟨by first | omega | (dsimp only; omega), by first | omega | (dsimp only; omega)⟩)
      | (with_reducible refine AR.wr ?_)
      | ((with_reducible intro w3 e3); try have z3 := cutLe e3)
      | ((with_reducible intro h3); have h4 := Nat.le_of_lt h3; clear h4)))
    conv => whnf
    refine callX (g := 36) (by kernel_rfl) (fun hX => ⟨_, hpo _ hX, fun w4 e4 => ?_⟩)
    have z4 := cutLe e4
    repeat (any_goals (
      conv => whnf
      first
      | ((with_reducible refine DRAW.quietE ?_ ?_ ?_); kernel_rfl; kernel_rfl)
      | ((with_reducible refine BIF.s (fun h => absurd h ?_) (fun _ => ?_)); focus (first | (simp; done) | (simp; omega)))
      | ((with_reducible refine BIF.s (fun _ => ?_) (fun h => absurd h ?_)); rotate_left; focus (first | (simp; done) | (simp; omega)))
      | ((with_reducible refine OBL.mk ?_ (fun _ => ?_)); exact ⟨by first | omega | (dsimp only; omega), by first | omega | (dsimp only; omega), his⟩)
      | ((with_reducible refine ELD.at (i) hr ?_ ?_ ?_ (fun x' hx' => ?_)); exact mAddr_Non _; (first | rfl | omega); exact hlt1; obtain rfl : tx = x' := by (rw [htx] at hx'; exact Option.some.inj hx'))
      | ((with_reducible refine ELD.at (k) hr ?_ ?_ ?_ (fun x' hx' => ?_)); exact mAddr_Non _; (first | rfl | omega); exact hlt2; obtain rfl : ty = x' := by (rw [hty] at hx'; exact Option.some.inj hx'))
      | ((with_reducible refine callQ (g := 59) ?_ ?_); kernel_rfl; refine ⟨_, fun w' _ => alike_c tx ty w', ?_⟩)
      | ((with_reducible refine BIF.dec ?_ ?_) <;> intro _)
      | ((with_reducible refine BIF.s ?_ ?_) <;> intro _)
      | (with_reducible refine NEXTK.normal ?_)
      | (with_reducible refine NEXTK.ret ?_)
      | (with_reducible refine NEXTK.exit ?_)
      | (with_reducible refine SEQ.plain ?_)
      | (with_reducible refine hK _ _ ?_)
      | ((with_reducible refine RUNL.agg (fun _ => ?_) ?_); (focus kernel_rfl))
      | (with_reducible refine RUNL.run ?_)
      | ((with_reducible refine AR.ok ?_ ?_); exact ⟨by first | omega | (dsimp only; omega), by first | omega | (dsimp only; omega)⟩)
      | (with_reducible refine AR.wr ?_)
      | ((with_reducible intro w3 e3); try have z3 := cutLe e3)
      | ((with_reducible intro h3); have h4 := Nat.le_of_lt h3; clear h4)))
    all_goals
      intro hx'
      rw [hf, hok]
      exact ⟨rfl, hx'⟩
theorem AreAlikeS_c (a : Option Addr) (n c : Nat) (ts : List Tri) (p q : Int) (w : World) (hr : Row w a 6 (ts.map encT)) (hs : SeenAt w ts) (hn : ts.length = n) (hm : n ≤ 1048577) (hg : sizT ts) :
    Calls Tryz.prog 29 #[.slice a n c, .int .i64 p, .int .i64 q] w fun e w' => e = .returned (.tuple #[.bool (pairA (ts.map (·.1)) p q), .bool (pairOk (ts.map (·.1)) p q)]) ∧ E0 w w' := by
  refine enterK Non 32 Tryz.func29 rfl rfl rfl fun K hK => ?_
  cases hok : pairOk (ts.map (·.1)) p q with
  | false =>
    have hf : pairA (ts.map (·.1)) p q = false := by unfold pairA; rw [hok]; rfl
    repeat (any_goals (
      conv => whnf
      first
      | ((with_reducible refine callF (g := 32) ?_ ?_); kernel_rfl; refine ⟨_, l25Pair_c _ _ _ ts p q _ (by repeat (first | assumption | refine Row.e0 ?_ (by assumption))) (by exact hs) hn hm hg, ?_⟩; intro w4 e4; have z4 := cutLe e4)
      | ((with_reducible refine BIF.s (fun h => absurd h ?_) (fun _ => ?_)); focus (simp [hok]; done))
      | ((with_reducible refine BIF.s (fun _ => ?_) (fun h => absurd h ?_)); rotate_left; focus (simp [hok]; done))
      | ((with_reducible refine BIF.dec ?_ ?_) <;> intro _)
      | ((with_reducible refine BIF.s ?_ ?_) <;> intro _)
      | (with_reducible refine NEXTK.normal ?_)
      | (with_reducible refine NEXTK.ret ?_)
      | (with_reducible refine NEXTK.exit ?_)
      | (with_reducible refine SEQ.plain ?_)
      | (with_reducible refine hK _ _ ?_)
      | ((with_reducible refine RUNL.agg (fun _ => ?_) ?_); (focus kernel_rfl))
      | (with_reducible refine RUNL.run ?_)
      | ((with_reducible refine AR.ok ?_ ?_); exact ⟨by first | omega | (dsimp only; omega), by first | omega | (dsimp only; omega)⟩)
      | (with_reducible refine AR.wr ?_)
      | ((with_reducible intro w3 e3); try have z3 := cutLe e3)
      | ((with_reducible intro h3); have h4 := Nat.le_of_lt h3; clear h4)))
    intro hx'
    rw [hf, hok]
    exact ⟨rfl, hx'⟩
  | true =>
    obtain ⟨i, k, x, y, h1, h2, hik, hkl, hx, hy, hA, -, -, -, -⟩ := pair_at hok
    obtain ⟨tx, htx, hex⟩ := fst_in hx
    obtain ⟨ty, hty, hey⟩ := fst_in hy
    obtain ⟨-, -, -, hy2⟩ := areE_bnd hA
    have hf := pairA_ok hok h1 h2 hx hy
    rw [← hex, ← hey] at hf
    have hlt1 := (List.getElem?_eq_some_iff.1 htx).1
    have hlt2 := (List.getElem?_eq_some_iff.1 hty).1
    have his := hr.isSome (by simp; omega)
    have hpo : ∀ w', E0 w w' → Calls Tryz.prog 32 #[.slice a n c, .int .i64 p, .int .i64 q] w' fun e w'' => e = .returned (.tuple #[.int .i64 i, .int .i64 k, .bool true]) ∧ E0 w' w'' := fun w' e => by
      have := l25Pair_c a n c ts p q w' (hr.e0 e) (hs.e0 e) hn hm hg
      rw [hok] at this
      simp only [if_true, h1, h2] at this
      exact this
    have hcl := clashP_alike tx.1 ty.1
    repeat (any_goals (
      conv => whnf
      first
      | ((with_reducible refine BIF.dec ?_ ?_) <;> intro _)
      | ((with_reducible refine BIF.s ?_ ?_) <;> intro _)
      | (with_reducible refine NEXTK.normal ?_)
      | (with_reducible refine NEXTK.ret ?_)
      | (with_reducible refine NEXTK.exit ?_)
      | (with_reducible refine SEQ.plain ?_)
      | (with_reducible refine hK _ _ ?_)
      | ((with_reducible refine RUNL.agg (fun _ => ?_) ?_); (focus kernel_rfl))
      | (with_reducible refine RUNL.run ?_)
      | ((with_reducible refine AR.ok ?_ ?_); exact ⟨by first | omega | (dsimp only; omega), by first | omega | (dsimp only; omega)⟩)
      | (with_reducible refine AR.wr ?_)
      | ((with_reducible intro w3 e3); try have z3 := cutLe e3)
      | ((with_reducible intro h3); have h4 := Nat.le_of_lt h3; clear h4)))
    conv => whnf
    refine callX (g := 32) (by kernel_rfl) (fun hX => ⟨_, hpo _ hX, fun w4 e4 => ?_⟩)
    have z4 := cutLe e4
    repeat (any_goals (
      conv => whnf
      first
      | ((with_reducible refine BIF.s (fun h => absurd h ?_) (fun _ => ?_)); focus (first | (simp; done) | (simp; omega)))
      | ((with_reducible refine BIF.s (fun _ => ?_) (fun h => absurd h ?_)); rotate_left; focus (first | (simp; done) | (simp; omega)))
      | ((with_reducible refine BIF.dec ?_ ?_) <;> intro _)
      | ((with_reducible refine BIF.s ?_ ?_) <;> intro _)
      | (with_reducible refine NEXTK.normal ?_)
      | (with_reducible refine NEXTK.ret ?_)
      | (with_reducible refine NEXTK.exit ?_)
      | (with_reducible refine SEQ.plain ?_)
      | (with_reducible refine hK _ _ ?_)
      | ((with_reducible refine RUNL.agg (fun _ => ?_) ?_); (focus kernel_rfl))
      | (with_reducible refine RUNL.run ?_)
      | ((with_reducible refine AR.ok ?_ ?_); exact ⟨by first | omega | (dsimp only; omega), by first | omega | (dsimp only; omega)⟩)
      | (with_reducible refine AR.wr ?_)
      | ((with_reducible intro w3 e3); try have z3 := cutLe e3)
      | ((with_reducible intro h3); have h4 := Nat.le_of_lt h3; clear h4)))
    conv => whnf
    (with_reducible refine DRAW.held (id := 4) (Non) [0, 1, 2, 3, 4, 5, 6, 7] (.start (.alt 8 (.one 9 (.one 10 (.one 11 (.one 12 .done)))) .stop)) ?_ ?_ ?_ ?_); kernel_rfl; kernel_rfl; kernel_rfl
    intro w3 e3 hE
    have z3 := cutLe e3
    repeat (any_goals (
      conv => whnf
      first
      | ((with_reducible intro w3 e3); have z3 := cutLe e3; replace hE := hE.trans' e3 (fun k hk h => by first | exact False.elim h | exact h | (exfalso; simp only [bk] at h; omega) | (simp only [bk] at h; omega)))
      | ((with_reducible refine And.intro ?_ ?_); (focus (first | exact mAddr_Non _ | (intro h; first | exact h | (simp only [bk] at h; omega)))))
      | (with_reducible refine And.intro hE ?_)
      | ((with_reducible refine OBL.mk ?_ (fun _ => ?_)); exact ⟨by first | omega | (dsimp only; omega), by first | omega | (dsimp only; omega), his⟩)
      | ((with_reducible refine ELD.at (i) hr ?_ ?_ ?_ (fun x' hx' => ?_)); exact mAddr_Non _; (first | rfl | omega); exact hlt1; obtain rfl : tx = x' := by (rw [htx] at hx'; exact Option.some.inj hx'))
      | ((with_reducible refine ELD.at (k) hr ?_ ?_ ?_ (fun x' hx' => ?_)); exact mAddr_Non _; (first | rfl | omega); exact hlt2; obtain rfl : ty = x' := by (rw [hty] at hx'; exact Option.some.inj hx'))
      | ((with_reducible refine callY (g := 34) ?_ ?_); kernel_rfl; refine ⟨_, fun hX => l25Clashes_c tx ty _ (hy2 tx (List.mem_of_getElem? htx)) (hy2 ty (List.mem_of_getElem? hty)), ?_⟩; intro r6 w6 e6 oC; have z6 := cutLe e6; replace hE := hE.trans (Ext.of0 e6); obtain ⟨b6, d6, rfl, q6, p6⟩ := oC.rowx)
      | (with_reducible refine And.intro ?_ ?_)
      | (exact True.intro)
      | ((with_reducible refine BIF.dec ?_ ?_) <;> intro _)
      | ((with_reducible refine BIF.s ?_ ?_) <;> intro _)
      | (with_reducible refine NEXTK.normal ?_)
      | (with_reducible refine NEXTK.ret ?_)
      | (with_reducible refine NEXTK.exit ?_)
      | (with_reducible refine SEQ.plain ?_)
      | (with_reducible refine hK _ _ ?_)
      | ((with_reducible refine RUNL.agg (fun _ => ?_) ?_); (focus kernel_rfl))
      | (with_reducible refine RUNL.run ?_)
      | ((with_reducible refine AR.ok ?_ ?_); exact ⟨by first | omega | (dsimp only; omega), by first | omega | (dsimp only; omega)⟩)
      | (with_reducible refine AR.wr ?_)
      | ((with_reducible intro w3 e3); try have z3 := cutLe e3)
      | ((with_reducible intro h3); have h4 := Nat.le_of_lt h3; clear h4)))
    intro hx'
    refine ⟨?_, hx'⟩
    rw [hf, hok]
    simp only [resV]
    refine congrArg (fun b => Ending.returned (Value.tuple #[.bool b, .bool true])) ?_
    rw [Bool.eq_iff_iff, ← hcl]
    simp
theorem pairC_ok {es : List Ent} {p q : Int} {i k : Nat} {x y : Ent} (h1 : loI es p q = i) (h2 : hiI es p q = k) (hx : es[i]? = some x) (hy : es[k]? = some y) : pairC es p q = clashP x y := by
  unfold pairC
  rw [h1, h2, Int.toNat_natCast, Int.toNat_natCast, clashAt_get hx hy]
def clashesP (es : List Ent) (p q : Int) : List Cla := if pairOk es p q then pairC es p q else []
theorem ClashesOf_c (a : Option Addr) (n c : Nat) (ts : List Tri) (p q : Int) (w : World) (hT : Tab w) (hr : Row w a 6 (ts.map encT)) (hs : SeenAt w ts) (hn : ts.length = n) (hm : n ≤ 1048577) (hc : n ≤ c) (hz : ∀ t ∈ ts, t.1.fSeen.length ≤ 1048577) :
    Calls Tryz.prog 21 #[.slice a n c, .int .i64 p, .int .i64 q] w fun e w' => ∃ v, e = .returned v ∧ E0 w w' ∧ ∃ kk, v = .tuple #[kk, .bool (pairOk (ts.map (·.1)) p q)] ∧ Own w' w.heap.size 63 3 kk ((clashesP (ts.map (·.1)) p q).map encCla) := by
  refine enterK Non 30 Tryz.func21 rfl rfl rfl fun K hK => ?_
  cases hok : pairOk (ts.map (·.1)) p q with
  | false =>
    have hf : clashesP (ts.map (·.1)) p q = [] := by unfold clashesP; rw [hok]; rfl
    repeat (any_goals (
      conv => whnf
      first
      | ((with_reducible refine callF (g := 36) ?_ ?_); kernel_rfl; refine ⟨_, pairOf_c _ _ _ ts p q _ (by repeat (first | assumption | refine Row.e0 ?_ (by assumption))) (by exact hs) hn hm hc hz, ?_⟩; intro w4 e4; have z4 := cutLe e4)
      | ((with_reducible refine BIF.s (fun h => absurd h ?_) (fun _ => ?_)); focus (simp [hok]; done))
      | ((with_reducible refine BIF.s (fun _ => ?_) (fun h => absurd h ?_)); rotate_left; focus (simp [hok]; done))
      | ((with_reducible refine BIF.dec ?_ ?_) <;> intro _)
      | ((with_reducible refine BIF.s ?_ ?_) <;> intro _)
      | (with_reducible refine NEXTK.normal ?_)
      | (with_reducible refine NEXTK.ret ?_)
      | (with_reducible refine NEXTK.exit ?_)
      | (with_reducible refine SEQ.plain ?_)
      | (with_reducible refine hK _ _ ?_)
      | ((with_reducible refine RUNL.agg (fun _ => ?_) ?_); (focus kernel_rfl))
      | (with_reducible refine RUNL.run ?_)
      | ((with_reducible refine AR.ok ?_ ?_); exact ⟨by first | omega | (dsimp only; omega), by first | omega | (dsimp only; omega)⟩)
      | (with_reducible refine AR.wr ?_)
      | ((with_reducible intro w3 e3); try have z3 := cutLe e3)
      | ((with_reducible intro h3); have h4 := Nat.le_of_lt h3; clear h4)))
    intro hx'
    rw [hf, hok]
    exact ⟨_, rfl, hx', _, rfl, Own.nil _ _ _ _⟩
  | true =>
    obtain ⟨i, k, x, y, h1, h2, hik, hkl, hx, hy, hA, -, -, -, -⟩ := pair_at hok
    obtain ⟨tx, htx, hex⟩ := fst_in hx
    obtain ⟨ty, hty, hey⟩ := fst_in hy
    obtain ⟨-, -, -, hy2⟩ := areE_bnd hA
    have hf : clashesP (ts.map (·.1)) p q = clashP tx.1 ty.1 := by unfold clashesP; rw [hok, hex, hey]; exact pairC_ok h1 h2 hx hy
    have hlt1 := (List.getElem?_eq_some_iff.1 htx).1
    have hlt2 := (List.getElem?_eq_some_iff.1 hty).1
    have his := hr.isSome (by simp; omega)
    have hpo : ∀ w', E0 w w' → Calls Tryz.prog 36 #[.slice a n c, .int .i64 p, .int .i64 q] w' fun e w'' => e = .returned (.tuple #[.int .i64 i, .int .i64 k, .bool true]) ∧ E0 w' w'' := fun w' e => by
      have := pairOf_c a n c ts p q w' (hr.e0 e) (hs.e0 e) hn hm hc hz
      rw [h1, h2, hok] at this
      exact this
    repeat (any_goals (
      conv => whnf
      first
      | ((with_reducible refine BIF.dec ?_ ?_) <;> intro _)
      | ((with_reducible refine BIF.s ?_ ?_) <;> intro _)
      | (with_reducible refine NEXTK.normal ?_)
      | (with_reducible refine NEXTK.ret ?_)
      | (with_reducible refine NEXTK.exit ?_)
      | (with_reducible refine SEQ.plain ?_)
      | (with_reducible refine hK _ _ ?_)
      | ((with_reducible refine RUNL.agg (fun _ => ?_) ?_); (focus kernel_rfl))
      | (with_reducible refine RUNL.run ?_)
      | ((with_reducible refine AR.ok ?_ ?_); exact ⟨by first | omega | (dsimp only; omega), by first | omega | (dsimp only; omega)⟩)
      | (with_reducible refine AR.wr ?_)
      | ((with_reducible intro w3 e3); try have z3 := cutLe e3)
      | ((with_reducible intro h3); have h4 := Nat.le_of_lt h3; clear h4)))
    conv => whnf
    refine callX (g := 36) (by kernel_rfl) (fun hX => ⟨_, hpo _ hX, fun w4 e4 => ?_⟩)
    have z4 := cutLe e4
    repeat (any_goals (
      conv => whnf
      first
      | ((with_reducible refine BIF.s (fun h => absurd h ?_) (fun _ => ?_)); focus (first | (simp; done) | (simp; omega)))
      | ((with_reducible refine BIF.s (fun _ => ?_) (fun h => absurd h ?_)); rotate_left; focus (first | (simp; done) | (simp; omega)))
      | ((with_reducible refine BIF.dec ?_ ?_) <;> intro _)
      | ((with_reducible refine BIF.s ?_ ?_) <;> intro _)
      | (with_reducible refine NEXTK.normal ?_)
      | (with_reducible refine NEXTK.ret ?_)
      | (with_reducible refine NEXTK.exit ?_)
      | (with_reducible refine SEQ.plain ?_)
      | (with_reducible refine hK _ _ ?_)
      | ((with_reducible refine RUNL.agg (fun _ => ?_) ?_); (focus kernel_rfl))
      | (with_reducible refine RUNL.run ?_)
      | ((with_reducible refine AR.ok ?_ ?_); exact ⟨by first | omega | (dsimp only; omega), by first | omega | (dsimp only; omega)⟩)
      | (with_reducible refine AR.wr ?_)
      | ((with_reducible intro w3 e3); try have z3 := cutLe e3)
      | ((with_reducible intro h3); have h4 := Nat.le_of_lt h3; clear h4)))
    conv => whnf
    (with_reducible refine DRAW.held (id := 4) (Non) [0, 1, 2, 3, 4, 5, 6, 7] (.start (.alt 8 (.one 9 (.one 10 .done)) .stop)) ?_ ?_ ?_ ?_); kernel_rfl; kernel_rfl; kernel_rfl
    intro w3 e3 hE
    have z3 := cutLe e3
    repeat (any_goals (
      conv => whnf
      first
      | ((with_reducible intro w3 e3); have z3 := cutLe e3; replace hE := hE.trans' e3 (fun k hk h => by first | exact False.elim h | exact h | (exfalso; simp only [bk] at h; omega) | (simp only [bk] at h; omega)))
      | ((with_reducible refine And.intro ?_ ?_); (focus (first | exact mAddr_Non _ | (intro h; first | exact h | (simp only [bk] at h; omega)))))
      | (with_reducible refine And.intro hE ?_)
      | ((with_reducible refine OBL.mk ?_ (fun _ => ?_)); exact ⟨by first | omega | (dsimp only; omega), by first | omega | (dsimp only; omega), his⟩)
      | ((with_reducible refine ELD.at (i) hr ?_ ?_ ?_ (fun x' hx' => ?_)); exact mAddr_Non _; (first | rfl | omega); exact hlt1; obtain rfl : tx = x' := by (rw [htx] at hx'; exact Option.some.inj hx'))
      | ((with_reducible refine ELD.at (k) hr ?_ ?_ ?_ (fun x' hx' => ?_)); exact mAddr_Non _; (first | rfl | omega); exact hlt2; obtain rfl : ty = x' := by (rw [hty] at hx'; exact Option.some.inj hx'))
      | ((with_reducible refine callY (g := 38) ?_ ?_); kernel_rfl; refine ⟨_, fun hX => clashes_c tx ty _ (TabIs.e0 hT hX) (hy2 tx (List.mem_of_getElem? htx)) (hy2 ty (List.mem_of_getElem? hty)), ?_⟩; intro r6 w6 e6 oC; have z6 := cutLe e6; replace hE := hE.trans (Ext.of0 e6); obtain ⟨b6, d6, rfl, q6, p6⟩ := oC.rowx)
      | (with_reducible refine And.intro ?_ ?_)
      | (exact True.intro)
      | ((with_reducible refine BIF.dec ?_ ?_) <;> intro _)
      | ((with_reducible refine BIF.s ?_ ?_) <;> intro _)
      | (with_reducible refine NEXTK.normal ?_)
      | (with_reducible refine NEXTK.ret ?_)
      | (with_reducible refine NEXTK.exit ?_)
      | (with_reducible refine SEQ.plain ?_)
      | (with_reducible refine hK _ _ ?_)
      | ((with_reducible refine RUNL.agg (fun _ => ?_) ?_); (focus kernel_rfl))
      | (with_reducible refine RUNL.run ?_)
      | ((with_reducible refine AR.ok ?_ ?_); exact ⟨by first | omega | (dsimp only; omega), by first | omega | (dsimp only; omega)⟩)
      | (with_reducible refine AR.wr ?_)
      | ((with_reducible intro w3 e3); try have z3 := cutLe e3)
      | ((with_reducible intro h3); have h4 := Nat.le_of_lt h3; clear h4)))
    intro hx'
    rw [hf, hok]
    exact ⟨_, rfl, hx', _, rfl, oC.lo (by omega)⟩
theorem ClashesOfS_c (a : Option Addr) (n c : Nat) (ts : List Tri) (p q : Int) (w : World) (hr : Row w a 6 (ts.map encT)) (hs : SeenAt w ts) (hn : ts.length = n) (hm : n ≤ 1048577) (hg : sizT ts) :
    Calls Tryz.prog 30 #[.slice a n c, .int .i64 p, .int .i64 q] w fun e w' => ∃ v, e = .returned v ∧ E0 w w' ∧ ∃ kk, v = .tuple #[kk, .bool (pairOk (ts.map (·.1)) p q)] ∧ Own w' w.heap.size 63 3 kk ((clashesP (ts.map (·.1)) p q).map encCla) := by
  refine enterK Non 31 Tryz.func30 rfl rfl rfl fun K hK => ?_
  cases hok : pairOk (ts.map (·.1)) p q with
  | false =>
    have hf : clashesP (ts.map (·.1)) p q = [] := by unfold clashesP; rw [hok]; rfl
    repeat (any_goals (
      conv => whnf
      first
      | ((with_reducible refine bsS elemCla [] rfl rfl (by simp) (by omega) (fun w9 e9 oM => ?_)); have z9 := cutLe e9)
      | ((with_reducible refine callF (g := 32) ?_ ?_); kernel_rfl; refine ⟨_, l25Pair_c _ _ _ ts p q _ (by repeat (first | assumption | refine Row.e0 ?_ (by assumption))) (by exact hs) hn hm hg, ?_⟩; intro w4 e4; have z4 := cutLe e4)
      | ((with_reducible refine BIF.s (fun h => absurd h ?_) (fun _ => ?_)); focus (simp [hok]; done))
      | ((with_reducible refine BIF.s (fun _ => ?_) (fun h => absurd h ?_)); rotate_left; focus (simp [hok]; done))
      | ((with_reducible refine BIF.dec ?_ ?_) <;> intro _)
      | ((with_reducible refine BIF.s ?_ ?_) <;> intro _)
      | (with_reducible refine NEXTK.normal ?_)
      | (with_reducible refine NEXTK.ret ?_)
      | (with_reducible refine NEXTK.exit ?_)
      | (with_reducible refine SEQ.plain ?_)
      | (with_reducible refine hK _ _ ?_)
      | ((with_reducible refine RUNL.agg (fun _ => ?_) ?_); (focus kernel_rfl))
      | (with_reducible refine RUNL.run ?_)
      | ((with_reducible refine AR.ok ?_ ?_); exact ⟨by first | omega | (dsimp only; omega), by first | omega | (dsimp only; omega)⟩)
      | (with_reducible refine AR.wr ?_)
      | ((with_reducible intro w3 e3); try have z3 := cutLe e3)
      | ((with_reducible intro h3); have h4 := Nat.le_of_lt h3; clear h4)))
    intro hx'
    rw [hf, hok]
    exact ⟨_, rfl, hx', _, rfl, oM.lo (by omega)⟩
  | true =>
    obtain ⟨i, k, x, y, h1, h2, hik, hkl, hx, hy, hA, -, -, -, -⟩ := pair_at hok
    obtain ⟨tx, htx, hex⟩ := fst_in hx
    obtain ⟨ty, hty, hey⟩ := fst_in hy
    obtain ⟨-, -, -, hy2⟩ := areE_bnd hA
    have hf : clashesP (ts.map (·.1)) p q = clashP tx.1 ty.1 := by unfold clashesP; rw [hok, hex, hey]; exact pairC_ok h1 h2 hx hy
    have hlt1 := (List.getElem?_eq_some_iff.1 htx).1
    have hlt2 := (List.getElem?_eq_some_iff.1 hty).1
    have his := hr.isSome (by simp; omega)
    have hpo : ∀ w', E0 w w' → Calls Tryz.prog 32 #[.slice a n c, .int .i64 p, .int .i64 q] w' fun e w'' => e = .returned (.tuple #[.int .i64 i, .int .i64 k, .bool true]) ∧ E0 w' w'' := fun w' e => by
      have := l25Pair_c a n c ts p q w' (hr.e0 e) (hs.e0 e) hn hm hg
      rw [hok] at this
      simp only [if_true, h1, h2] at this
      exact this
    repeat (any_goals (
      conv => whnf
      first
      | ((with_reducible refine BIF.dec ?_ ?_) <;> intro _)
      | ((with_reducible refine BIF.s ?_ ?_) <;> intro _)
      | (with_reducible refine NEXTK.normal ?_)
      | (with_reducible refine NEXTK.ret ?_)
      | (with_reducible refine NEXTK.exit ?_)
      | (with_reducible refine SEQ.plain ?_)
      | (with_reducible refine hK _ _ ?_)
      | ((with_reducible refine RUNL.agg (fun _ => ?_) ?_); (focus kernel_rfl))
      | (with_reducible refine RUNL.run ?_)
      | ((with_reducible refine AR.ok ?_ ?_); exact ⟨by first | omega | (dsimp only; omega), by first | omega | (dsimp only; omega)⟩)
      | (with_reducible refine AR.wr ?_)
      | ((with_reducible intro w3 e3); try have z3 := cutLe e3)
      | ((with_reducible intro h3); have h4 := Nat.le_of_lt h3; clear h4)))
    conv => whnf
    refine callX (g := 32) (by kernel_rfl) (fun hX => ⟨_, hpo _ hX, fun w4 e4 => ?_⟩)
    have z4 := cutLe e4
    repeat (any_goals (
      conv => whnf
      first
      | ((with_reducible refine BIF.s (fun h => absurd h ?_) (fun _ => ?_)); focus (first | (simp; done) | (simp; omega)))
      | ((with_reducible refine BIF.s (fun _ => ?_) (fun h => absurd h ?_)); rotate_left; focus (first | (simp; done) | (simp; omega)))
      | ((with_reducible refine BIF.dec ?_ ?_) <;> intro _)
      | ((with_reducible refine BIF.s ?_ ?_) <;> intro _)
      | (with_reducible refine NEXTK.normal ?_)
      | (with_reducible refine NEXTK.ret ?_)
      | (with_reducible refine NEXTK.exit ?_)
      | (with_reducible refine SEQ.plain ?_)
      | (with_reducible refine hK _ _ ?_)
      | ((with_reducible refine RUNL.agg (fun _ => ?_) ?_); (focus kernel_rfl))
      | (with_reducible refine RUNL.run ?_)
      | ((with_reducible refine AR.ok ?_ ?_); exact ⟨by first | omega | (dsimp only; omega), by first | omega | (dsimp only; omega)⟩)
      | (with_reducible refine AR.wr ?_)
      | ((with_reducible intro w3 e3); try have z3 := cutLe e3)
      | ((with_reducible intro h3); have h4 := Nat.le_of_lt h3; clear h4)))
    conv => whnf
    (with_reducible refine DRAW.held (id := 4) (Non) [0, 1, 2, 3, 4, 5, 6, 7] (.start (.alt 8 (.one 9 (.one 10 .done)) .stop)) ?_ ?_ ?_ ?_); kernel_rfl; kernel_rfl; kernel_rfl
    intro w3 e3 hE
    have z3 := cutLe e3
    repeat (any_goals (
      conv => whnf
      first
      | ((with_reducible intro w3 e3); have z3 := cutLe e3; replace hE := hE.trans' e3 (fun k hk h => by first | exact False.elim h | exact h | (exfalso; simp only [bk] at h; omega) | (simp only [bk] at h; omega)))
      | ((with_reducible refine And.intro ?_ ?_); (focus (first | exact mAddr_Non _ | (intro h; first | exact h | (simp only [bk] at h; omega)))))
      | (with_reducible refine And.intro hE ?_)
      | ((with_reducible refine OBL.mk ?_ (fun _ => ?_)); exact ⟨by first | omega | (dsimp only; omega), by first | omega | (dsimp only; omega), his⟩)
      | ((with_reducible refine ELD.at (i) hr ?_ ?_ ?_ (fun x' hx' => ?_)); exact mAddr_Non _; (first | rfl | omega); exact hlt1; obtain rfl : tx = x' := by (rw [htx] at hx'; exact Option.some.inj hx'))
      | ((with_reducible refine ELD.at (k) hr ?_ ?_ ?_ (fun x' hx' => ?_)); exact mAddr_Non _; (first | rfl | omega); exact hlt2; obtain rfl : ty = x' := by (rw [hty] at hx'; exact Option.some.inj hx'))
      | ((with_reducible refine callY (g := 34) ?_ ?_); kernel_rfl; refine ⟨_, fun hX => l25Clashes_c tx ty _ (hy2 tx (List.mem_of_getElem? htx)) (hy2 ty (List.mem_of_getElem? hty)), ?_⟩; intro r6 w6 e6 oC; have z6 := cutLe e6; replace hE := hE.trans (Ext.of0 e6); obtain ⟨b6, d6, rfl, q6, p6⟩ := oC.rowx)
      | (with_reducible refine And.intro ?_ ?_)
      | (exact True.intro)
      | ((with_reducible refine BIF.dec ?_ ?_) <;> intro _)
      | ((with_reducible refine BIF.s ?_ ?_) <;> intro _)
      | (with_reducible refine NEXTK.normal ?_)
      | (with_reducible refine NEXTK.ret ?_)
      | (with_reducible refine NEXTK.exit ?_)
      | (with_reducible refine SEQ.plain ?_)
      | (with_reducible refine hK _ _ ?_)
      | ((with_reducible refine RUNL.agg (fun _ => ?_) ?_); (focus kernel_rfl))
      | (with_reducible refine RUNL.run ?_)
      | ((with_reducible refine AR.ok ?_ ?_); exact ⟨by first | omega | (dsimp only; omega), by first | omega | (dsimp only; omega)⟩)
      | (with_reducible refine AR.wr ?_)
      | ((with_reducible intro w3 e3); try have z3 := cutLe e3)
      | ((with_reducible intro h3); have h4 := Nat.le_of_lt h3; clear h4)))
    intro hx'
    rw [hf, hok]
    exact ⟨_, rfl, hx', _, rfl, oC.lo (by omega)⟩

end Go.Proofs.YtpddilkonkkppaaGreatDoor

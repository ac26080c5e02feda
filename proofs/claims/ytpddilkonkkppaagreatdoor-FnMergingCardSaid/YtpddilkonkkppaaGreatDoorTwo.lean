/- Two entries of a list. -/
import Derived.Test.YtpddilkonkkppaaGreatDoorRows
import Derived.Test.YtpddilkonkkppaaGreatDoorTalk
namespace Go.Proofs.YtpddilkonkkppaaGreatDoor
open Go Go.X Go.Proofs Go.ChangeShapes Go.WideShapes Go.ChangeAt Go.RowKit
open Go.ChangeMaps (open_string shut_string)
set_option maxHeartbeats 1000000
set_option maxRecDepth 20000
set_option linter.unusedVariables false
set_option linter.unusedSimpArgs false
def idB (s : Int) (x : Ent) : Bool := decide (x.fId = s)
def fP (es : List Ent) (s : Int) : Int := idxP (idB s) es
theorem entryAt1_c (t : Tri) (s : Int) (p : Addr) (w : World) (hp : Row w (some p) 1 [[.int .i64 s]]) :
    Calls Tryz.prog 90 #[.agg (encT t).toArray, .pointer (some p)] w fun e w' => e = .returned (.bool (idB s t.1)) ∧ E0 w w' := by
  refine enterK Non 8 Tryz.func90 rfl rfl rfl fun K hK => ?_
  repeat (any_goals (
    conv => whnf
    first
    | ((with_reducible refine ELD.old [[.int .i64 s]] [.int .i64 s] hp ?_ ?_ ?_); exact mAddr_Non _; rfl)
    | ((with_reducible refine BIF.dec ?_ ?_) <;> intro _)
    | ((with_reducible refine BIF.s ?_ ?_) <;> intro _)
    | (with_reducible refine NEXTK.normal ?_)
    | (with_reducible refine NEXTK.ret ?_)
    | (with_reducible refine NEXTK.exit ?_)
    | (with_reducible refine SEQ.plain ?_)
    | (with_reducible refine hK _ _ ?_)
    | ((with_reducible refine RUNL.agg (fun _ => ?_) ?_); (focus kernel_rfl))
    | (with_reducible refine RUNL.run ?_)
    | ((with_reducible refine AR.ok ?_ ?_); exact ⟨by first | omega | (dsimp only; omega), by first | omega | (dsimp only; omega)⟩)
    | (with_reducible refine AR.wr ?_)
    | ((with_reducible intro w3 e3); try have z3 := cutLe e3)
    | ((with_reducible intro h3); have h4 := Nat.le_of_lt h3; clear h4)))
  intro hx
  refine ⟨?_, hx⟩
  simp only [resV, idB]
  refine congrArg (fun b => Ending.returned (Value.bool b)) ?_
  rw [Bool.eq_iff_iff]
  simp
theorem entryAt_c (a : Option Addr) (n c : Nat) (ts : List Tri) (s : Int) (w : World) (hr : Row w a 6 (ts.map encT)) (hn : ts.length = n) (hm : n ≤ 1048577) :
    Calls Tryz.prog 68 #[.slice a n c, .int .i64 s] w fun e w' => e = .returned (.int .i64 (fP (ts.map (·.1)) s)) ∧ E0 w w' := by
  refine enterK Non 8 Tryz.func68 rfl rfl rfl fun K hK => ?_
  repeat (any_goals (
    conv => whnf
    first
    | ((with_reducible refine RUN.mk (fun _ => rfl) ?_))
    | ((with_reducible refine callXB (g := 80) ?_ ?_); kernel_rfl; intro hX hbx; refine ⟨_, IndexFuncT_c (fun t => idB s t.1) _ _ _ ts _ _ _ (by repeat (first | assumption | refine Row.e0 ?_ (by assumption))) hn (by omega) (by kernel_rfl) (fun t ht w' e => entryAt1_c t s _ _ ((Boxes.row hbx 0 _ _ _ rfl).e0 e)), ?_⟩; intro w4 e4)
    | ((with_reducible refine BIF.dec ?_ ?_) <;> intro _)
    | ((with_reducible refine BIF.s ?_ ?_) <;> intro _)
    | (with_reducible refine NEXTK.normal ?_)
    | (with_reducible refine NEXTK.ret ?_)
    | (with_reducible refine NEXTK.exit ?_)
    | (with_reducible refine SEQ.plain ?_)
    | (with_reducible refine hK _ _ ?_)
    | ((with_reducible refine RUNL.agg (fun _ => ?_) ?_); (focus kernel_rfl))
    | (with_reducible refine RUNL.run ?_)
    | ((with_reducible refine AR.ok ?_ ?_); exact ⟨by first | omega | (dsimp only; omega), by first | omega | (dsimp only; omega)⟩)
    | (with_reducible refine AR.wr ?_)
    | ((with_reducible intro w3 e3); try have z3 := cutLe e3)
    | ((with_reducible intro h3); have h4 := Nat.le_of_lt h3; clear h4)))
  intro hw
  refine ⟨?_, hw⟩
  rw [fP, ← idxP_map (·.1) (idB s) ts]
  rfl
theorem l25Find_c (a : Option Addr) (n c : Nat) (ts : List Tri) (s : Int) (w : World) (hr : Row w a 6 (ts.map encT)) (hn : ts.length = n) (hm : n ≤ 1048577) :
    Calls Tryz.prog 61 #[.slice a n c, .int .i64 s] w fun e w' => e = .returned (.int .i64 (fP (ts.map (·.1)) s)) ∧ E0 w w' := by
  refine enterK Non 20 Tryz.func61 rfl rfl rfl fun K hK => ?_
  repeat (any_goals (
    conv => whnf
    first
    | ((with_reducible refine BIF.dec ?_ ?_) <;> intro _)
    | ((with_reducible refine BIF.s ?_ ?_) <;> intro _)
    | (with_reducible refine NEXTK.normal ?_)
    | (with_reducible refine NEXTK.ret ?_)
    | (with_reducible refine NEXTK.exit ?_)
    | (with_reducible refine SEQ.plain ?_)
    | (with_reducible refine hK _ _ ?_)
    | ((with_reducible refine RUNL.agg (fun _ => ?_) ?_); (focus kernel_rfl))
    | (with_reducible refine RUNL.run ?_)
    | ((with_reducible refine AR.ok ?_ ?_); exact ⟨by first | omega | (dsimp only; omega), by first | omega | (dsimp only; omega)⟩)
    | (with_reducible refine AR.wr ?_)
    | ((with_reducible intro w3 e3); try have z3 := cutLe e3)
    | ((with_reducible intro h3); have h4 := Nat.le_of_lt h3; clear h4)))
  conv => whnf
  refine LOOP.mk Nat (fun k => [(5, .v (.int .i64 k))]) (fun k wr => k ≤ n ∧ ∀ j x, j < k → (ts.map (·.1))[j]? = some x → idB s x = false) (fun k => n - k) 0 rfl ⟨rfl, trivial⟩ ⟨Nat.zero_le _, fun j x hj => by omega⟩ ?_
  rintro k wr hX0 ⟨hk, hno⟩
  conv => whnf
  repeat (first | ((with_reducible refine NEXTK.normal ?_); conv => whnf) | ((with_reducible refine NEXTK.exit ?_); conv => whnf) | ((with_reducible refine NEXTK.ret ?_); conv => whnf) | ((with_reducible refine SEQ.plain ?_); conv => whnf) | ((with_reducible refine AR.ok ?_ ?_); exact ⟨by omega, by omega⟩; conv => whnf))
  refine BIF.dec (fun hlt => ?_) (fun hlt => ?_)
  · have hlt' : k < ts.length := by omega
    have his := hr.isSome (by simp; omega)
    obtain ⟨t, ht⟩ : ∃ t, ts[k]? = some t := ⟨ts[k], by simp⟩
    repeat (any_goals (
      conv => whnf
      first
      | ((with_reducible refine OBL.mk ?_ (fun _ => ?_)); exact ⟨by first | omega | (dsimp only; omega), by first | omega | (dsimp only; omega), his⟩)
      | ((with_reducible refine ELD.at (k) hr ?_ ?_ ?_ (fun x' hx' => ?_)); exact mAddr_Non _; (first | rfl | omega); exact hlt'; obtain rfl : t = x' := by (rw [ht] at hx'; exact Option.some.inj hx'))
      | ((with_reducible refine BIF.beq ?_ ?_) <;> intro he)
      | ((with_reducible refine BIF.dec ?_ ?_) <;> intro _)
      | ((with_reducible refine BIF.s ?_ ?_) <;> intro _)
      | (with_reducible refine NEXTK.normal ?_)
      | (with_reducible refine NEXTK.ret ?_)
      | (with_reducible refine NEXTK.exit ?_)
      | (with_reducible refine SEQ.plain ?_)
      | (with_reducible refine hK _ _ ?_)
      | ((with_reducible refine RUNL.agg (fun _ => ?_) ?_); (focus kernel_rfl))
      | (with_reducible refine RUNL.run ?_)
      | ((with_reducible refine AR.ok ?_ ?_); exact ⟨by first | omega | (dsimp only; omega), by first | omega | (dsimp only; omega)⟩)
      | (with_reducible refine AR.wr ?_)
      | ((with_reducible intro w3 e3); try have z3 := cutLe e3)
      | ((with_reducible intro h3); have h4 := Nat.le_of_lt h3; clear h4)))
    · intro hw
      refine ⟨?_, hw⟩
      have : fP (ts.map (·.1)) s = k := idxP_hit (fst_at ht) (by unfold idB; exact decide_eq_true he) hno
      rw [this]; rfl
    · refine ⟨k + 1, rfl, ⟨rfl, trivial⟩, rfl, rfl, ⟨by omega, fun j x hj hx => ?_⟩, by omega⟩
      rcases Nat.lt_or_ge j k with h | h
      · exact hno j x h hx
      · obtain rfl : j = k := by omega
        rw [fst_at ht] at hx
        cases hx
        unfold idB
        exact decide_eq_false he
  · repeat (any_goals (
      conv => whnf
      first
      | ((with_reducible refine BIF.dec ?_ ?_) <;> intro _)
      | ((with_reducible refine BIF.s ?_ ?_) <;> intro _)
      | (with_reducible refine NEXTK.normal ?_)
      | (with_reducible refine NEXTK.ret ?_)
      | (with_reducible refine NEXTK.exit ?_)
      | (with_reducible refine SEQ.plain ?_)
      | (with_reducible refine hK _ _ ?_)
      | ((with_reducible refine RUNL.agg (fun _ => ?_) ?_); (focus kernel_rfl))
      | (with_reducible refine RUNL.run ?_)
      | ((with_reducible refine AR.ok ?_ ?_); exact ⟨by first | omega | (dsimp only; omega), by first | omega | (dsimp only; omega)⟩)
      | (with_reducible refine AR.wr ?_)
      | ((with_reducible intro w3 e3); try have z3 := cutLe e3)
      | ((with_reducible intro h3); have h4 := Nat.le_of_lt h3; clear h4)))
    intro hw
    refine ⟨?_, hw⟩
    have : fP (ts.map (·.1)) s = -1 := idxP_none (fun j x hx => hno j x (by have := (List.getElem?_eq_some_iff.1 hx).1; rw [List.length_map] at this; omega) hx)
    rw [this]; rfl
theorem areE_ids {es : List Ent} (h : areE es = true) {i k : Nat} {x y : Ent} (hik : i < k) (hx : es[i]? = some x) (hy : es[k]? = some y) : x.fId < y.fId := by
  induction k generalizing y with
  | zero => omega
  | succ k ih =>
    have hkl := (List.getElem?_eq_some_iff.1 hy).1
    have hz : es[k]? = some es[k] := List.getElem?_eq_getElem (by omega)
    have hg := (areE_at h hy).2.2
    rw [gAtE_get (by omega) hy (show es[k + 1 - 1]? = some es[k] from hz)] at hg
    simp only [Bool.and_eq_true, decide_eq_true_eq] at hg
    rcases Nat.lt_or_ge i k with h' | h'
    · have := ih h' hz; omega
    · obtain rfl : i = k := by omega
      rw [hz] at hx
      cases hx
      exact hg.2
theorem fP_found {es : List Ent} {s : Int} (h : 0 ≤ fP es s) : ∃ (k : Nat) (x : Ent), fP es s = k ∧ k < es.length ∧ es[k]? = some x ∧ x.fId = s := by
  rcases idxP_spec (idB s) es with ⟨hi, -⟩ | ⟨k, x, hi, hk, hx, hp, -⟩
  · unfold fP at h; omega
  · exact ⟨k, x, hi, hk, hx, by unfold idB at hp; exact of_decide_eq_true hp⟩
theorem fP_lt {es : List Ent} (hA : areE es = true) {a b : Int} (ha : 0 ≤ fP es a) (hb : 0 ≤ fP es b) : fP es a < fP es b ↔ a < b := by
  obtain ⟨i, x, hi, hil, hx, rfl⟩ := fP_found ha
  obtain ⟨k, y, hk, hkl, hy, rfl⟩ := fP_found hb
  rw [hi, hk]
  constructor
  · intro h
    exact areE_ids hA (by omega) hx hy
  · intro h
    rcases Nat.lt_trichotomy i k with h1 | h1 | h1
    · omega
    · subst h1
      rw [hx] at hy
      cases hy
      omega
    · have := areE_ids hA h1 hy hx
      omega
def pairOk (es : List Ent) (a b : Int) : Bool := areE es && decide (0 ≤ fP es a) && decide (0 ≤ fP es b) && decide (fP es a ≠ fP es b)
def loI (es : List Ent) (a b : Int) : Int := fP es (min a b)
def hiI (es : List Ent) (a b : Int) : Int := fP es (max a b)
theorem pair_at {es : List Ent} {a b : Int} (h : pairOk es a b = true) : ∃ (i k : Nat) (x y : Ent), loI es a b = i ∧ hiI es a b = k ∧ i < k ∧ k < es.length ∧ es[i]? = some x ∧ es[k]? = some y ∧ areE es = true ∧ min (fP es a) (fP es b) = i ∧ max (fP es a) (fP es b) = k ∧ x.fId = min a b ∧ y.fId = max a b := by
  unfold pairOk at h
  simp only [Bool.and_eq_true, decide_eq_true_eq] at h
  obtain ⟨⟨⟨hA, ha⟩, hb⟩, hne⟩ := h
  have hab : a ≠ b := fun e => hne (by rw [e])
  have hlt := fP_lt hA ha hb
  unfold loI hiI
  by_cases h1 : a < b
  · obtain ⟨i, x, hi, hil, hx, hxa⟩ := fP_found ha
    obtain ⟨k, y, hk, hkl, hy, hyb⟩ := fP_found hb
    have := hlt.2 h1
    rw [show min a b = a by omega, show max a b = b by omega]
    exact ⟨i, k, x, y, hi, hk, by omega, hkl, hx, hy, hA, by omega, by omega, hxa, hyb⟩
  · obtain ⟨i, x, hi, hil, hx, hxa⟩ := fP_found hb
    obtain ⟨k, y, hk, hkl, hy, hyb⟩ := fP_found ha
    have : ¬ fP es a < fP es b := fun h => by have := hlt.1 h; omega
    rw [show min a b = b by omega, show max a b = a by omega]
    exact ⟨i, k, x, y, hi, hk, by omega, hkl, hx, hy, hA, by omega, by omega, hxa, hyb⟩
theorem pairOk_mm (es : List Ent) (a b : Int) : (areE es && decide (0 ≤ fP es (min a b)) && decide (0 ≤ fP es (max a b)) && decide (fP es (min a b) ≠ fP es (max a b))) = pairOk es a b := by
  unfold pairOk
  rcases Int.le_total a b with h | h
  · rw [show min a b = a by omega, show max a b = b by omega]
  · rw [show min a b = b by omega, show max a b = a by omega]
    rw [Bool.eq_iff_iff]
    simp only [Bool.and_eq_true, decide_eq_true_eq]
    constructor
    · rintro ⟨⟨⟨h1, h2⟩, h3⟩, h4⟩; exact ⟨⟨⟨h1, h3⟩, h2⟩, fun e => h4 e.symm⟩
    · rintro ⟨⟨⟨h1, h2⟩, h3⟩, h4⟩; exact ⟨⟨⟨h1, h3⟩, h2⟩, fun e => h4 e.symm⟩
theorem pairOf_c (a : Option Addr) (n c : Nat) (ts : List Tri) (p q : Int) (w : World) (hr : Row w a 6 (ts.map encT)) (hs : SeenAt w ts) (hn : ts.length = n) (hm : n ≤ 1048577) (hc : n ≤ c) (hz : ∀ t ∈ ts, t.1.fSeen.length ≤ 1048577) :
    Calls Tryz.prog 36 #[.slice a n c, .int .i64 p, .int .i64 q] w fun e w' => e = .returned (.tuple #[.int .i64 (loI (ts.map (·.1)) p q), .int .i64 (hiI (ts.map (·.1)) p q), .bool (pairOk (ts.map (·.1)) p q)]) ∧ E0 w w' := by
  refine enterK Non 38 Tryz.func36 rfl rfl rfl fun K hK => ?_
  repeat (any_goals (
    conv => whnf
    first
    | ((with_reducible refine callX (g := 68) ?_ ?_); kernel_rfl; intro hX; refine ⟨_, entryAt_c _ _ _ ts _ _ (hr.ext hX (mAddr_Non _)) hn hm, ?_⟩; intro w4 e4; have z4 := cutLe e4)
    | ((with_reducible refine callX (g := 19) ?_ ?_); kernel_rfl; intro hX; refine ⟨_, AreEntries_c _ _ _ ts _ (hr.ext hX (mAddr_Non _)) (fun u hu => (hs u hu).ext hX (mAddr_Non _)) hn hm hc hz, ?_⟩; intro w4 e4; have z4 := cutLe e4)
    | ((with_reducible refine BIF.dec ?_ ?_) <;> intro _)
    | ((with_reducible refine BIF.bne ?_ ?_) <;> intro _)
    | ((with_reducible refine BIF.dec ?_ ?_) <;> intro _)
    | ((with_reducible refine BIF.s ?_ ?_) <;> intro _)
    | (with_reducible refine NEXTK.normal ?_)
    | (with_reducible refine NEXTK.ret ?_)
    | (with_reducible refine NEXTK.exit ?_)
    | (with_reducible refine SEQ.plain ?_)
    | (with_reducible refine hK _ _ ?_)
    | ((with_reducible refine RUNL.agg (fun _ => ?_) ?_); (focus kernel_rfl))
    | (with_reducible refine RUNL.run ?_)
    | ((with_reducible refine AR.ok ?_ ?_); exact ⟨by first | omega | (dsimp only; omega), by first | omega | (dsimp only; omega)⟩)
    | (with_reducible refine AR.wr ?_)
    | ((with_reducible intro w3 e3); try have z3 := cutLe e3)
    | ((with_reducible intro h3); have h4 := Nat.le_of_lt h3; clear h4)))
  all_goals
    intro hx
    refine ⟨?_, hx⟩
    clear hK
    rw [← pairOk_mm]
    first
    | (simp_all [resV, loI, hiI]; done)
    | (simp_all [resV, loI, hiI]; omega)
    | (simp_all [resV, loI, hiI]; rw [Bool.eq_iff_iff]; simp)
theorem l25Pair_c (a : Option Addr) (n c : Nat) (ts : List Tri) (p q : Int) (w : World) (hr : Row w a 6 (ts.map encT)) (hs : SeenAt w ts) (hn : ts.length = n) (hm : n ≤ 1048577) (hg : sizT ts) :
    Calls Tryz.prog 32 #[.slice a n c, .int .i64 p, .int .i64 q] w fun e w' => e = .returned (.tuple #[.int .i64 (if pairOk (ts.map (·.1)) p q then loI (ts.map (·.1)) p q else 0), .int .i64 (if pairOk (ts.map (·.1)) p q then hiI (ts.map (·.1)) p q else 0), .bool (pairOk (ts.map (·.1)) p q)]) ∧ E0 w w' := by
  refine enterK Non 39 Tryz.func32 rfl rfl rfl fun K hK => ?_
  repeat (any_goals (
    conv => whnf
    first
    | ((with_reducible refine callX (g := 61) ?_ ?_); kernel_rfl; intro hX; refine ⟨_, l25Find_c _ _ _ ts _ _ (hr.ext hX (mAddr_Non _)) hn hm, ?_⟩; intro w4 e4; have z4 := cutLe e4)
    | ((with_reducible refine callX (g := 50) ?_ ?_); kernel_rfl; intro hX; refine ⟨_, l25Good_c _ _ _ ts _ (hr.ext hX (mAddr_Non _)) (fun u hu => (hs u hu).ext hX (mAddr_Non _)) hn hm hg, ?_⟩; intro w4 e4; have z4 := cutLe e4)
    | ((with_reducible refine callF (g := 62) ?_ ?_); kernel_rfl; refine ⟨_, l1Least_c _ _ _, ?_⟩; intro w4 e4; have z4 := cutLe e4)
    | ((with_reducible refine callF (g := 63) ?_ ?_); kernel_rfl; refine ⟨_, l1Most_c _ _ _, ?_⟩; intro w4 e4; have z4 := cutLe e4)
    | ((with_reducible refine BIF.not ?_))
    | ((with_reducible refine BIF.s (fun (hA : areE (ts.map (·.1)) = true) => ?_) (fun (hA : areE (ts.map (·.1)) = false) => ?_)))
    | ((with_reducible refine BIF.dec ?_ ?_) <;> intro _)
    | ((with_reducible refine BIF.beq ?_ ?_) <;> intro _)
    | ((with_reducible refine BIF.dec ?_ ?_) <;> intro _)
    | ((with_reducible refine BIF.s ?_ ?_) <;> intro _)
    | (with_reducible refine NEXTK.normal ?_)
    | (with_reducible refine NEXTK.ret ?_)
    | (with_reducible refine NEXTK.exit ?_)
    | (with_reducible refine SEQ.plain ?_)
    | (with_reducible refine hK _ _ ?_)
    | ((with_reducible refine RUNL.agg (fun _ => ?_) ?_); (focus kernel_rfl))
    | (with_reducible refine RUNL.run ?_)
    | ((with_reducible refine AR.ok ?_ ?_); exact ⟨by first | omega | (dsimp only; omega), by first | omega | (dsimp only; omega)⟩)
    | (with_reducible refine AR.wr ?_)
    | ((with_reducible intro w3 e3); try have z3 := cutLe e3)
    | ((with_reducible intro h3); have h4 := Nat.le_of_lt h3; clear h4)))
  all_goals
    intro hx
    refine ⟨?_, hx⟩
    clear hK
    cases hok : pairOk (ts.map (·.1)) p q with
    | false =>
      first
      | rfl
      | (exfalso
         unfold pairOk at hok
         simp_all
         done)
      | (exfalso
         unfold pairOk at hok
         simp_all
         omega)
    | true =>
      first
      | (obtain ⟨i, k, x, y, h1, h2, -, -, -, -, -, h3, h4, -, -⟩ := pair_at hok
         rw [h1, h2, h3, h4]; rfl)
      | (exfalso
         unfold pairOk at hok
         simp_all
         done)
      | (exfalso
         unfold pairOk at hok
         simp_all
         omega)

end Go.Proofs.YtpddilkonkkppaaGreatDoor

/- Two entries of a list made one. -/
import Derived.Test.YtpddilkonkkppaaGreatDoorRows
import Derived.Test.YtpddilkonkkppaaGreatDoorClash
namespace Go.Proofs.YtpddilkonkkppaaGreatDoor
open Go Go.X Go.Proofs Go.ChangeShapes Go.WideShapes Go.ChangeAt Go.RowKit
open Go.ChangeMaps (open_string shut_string)
set_option maxHeartbeats 1000000
set_option maxRecDepth 20000
set_option linter.unusedVariables false
set_option linter.unusedSimpArgs false
def clashAt (es : List Ent) (i k : Nat) : List Cla :=
  match es[i]?, es[k]? with
  | some x, some y => clashP x y
  | _, _ => []
theorem clashAt_get {es : List Ent} {i k : Nat} {x y : Ent} (hx : es[i]? = some x) (hy : es[k]? = some y) : clashAt es i k = clashP x y := by unfold clashAt; rw [hx, hy]
theorem clashP_len (x y : Ent) : (clashP x y).length ≤ 3 := by
  unfold clashP
  simp only [List.length_append]
  split <;> split <;> split <;> simp
theorem clashAt_len (es : List Ent) (i k : Nat) : (clashAt es i k).length ≤ 3 := by
  unfold clashAt
  split
  · exact clashP_len _ _
  · simp
def pairM (es : List Ent) (p q : Int) : List Ent := mergeP es (loI es p q).toNat (hiI es p q).toNat
def pairC (es : List Ent) (p q : Int) : List Cla := clashAt es (loI es p q).toNat (hiI es p q).toNat
def mergeTwoP (es : List Ent) (p q : Int) : List Ent × List Cla × Bool := if pairOk es p q && areE (pairM es p q) then (pairM es p q, pairC es p q, true) else ([], [], false)
theorem mergeTwo_no {es : List Ent} {p q : Int} (h : pairOk es p q = false) : mergeTwoP es p q = ([], [], false) := by unfold mergeTwoP; rw [h]; rfl
theorem mergeTwo_bad {es : List Ent} {p q : Int} {i k : Nat} (h1 : loI es p q = i) (h2 : hiI es p q = k) (hA : areE (mergeP es i k) = false) : mergeTwoP es p q = ([], [], false) := by
  unfold mergeTwoP pairM
  rw [h1, h2, Int.toNat_natCast, Int.toNat_natCast, hA, Bool.and_false]; rfl
theorem mergeTwo_ok {es : List Ent} {p q : Int} {i k : Nat} {x y : Ent} (h : pairOk es p q = true) (h1 : loI es p q = i) (h2 : hiI es p q = k) (hA : areE (mergeP es i k) = true) (hx : es[i]? = some x) (hy : es[k]? = some y) : mergeTwoP es p q = (mergeP es i k, clashP x y, true) := by
  unfold mergeTwoP pairM pairC
  rw [h1, h2, Int.toNat_natCast, Int.toNat_natCast, hA, h, clashAt_get hx hy]; rfl
theorem mergeTwo_len (es : List Ent) (p q : Int) : (mergeTwoP es p q).2.1.length ≤ 3 := by
  unfold mergeTwoP
  split
  · exact clashAt_len _ _ _
  · simp
theorem fst_in {ts : List Tri} {k : Nat} {x : Ent} (h : (ts.map (·.1))[k]? = some x) : ∃ t, ts[k]? = some t ∧ t.1 = x := by
  rw [List.getElem?_map] at h
  cases ht : ts[k]? with
  | none => rw [ht] at h; cases h
  | some t => rw [ht] at h; exact ⟨t, rfl, Option.some.inj h⟩
theorem MergeTwo_c (a : Option Addr) (n c : Nat) (ts : List Tri) (p q : Int) (w : World) (hT : Tab w) (hr : Row w a 6 (ts.map encT)) (hs : SeenAt w ts) (hn : ts.length = n) (hm : n ≤ 1048577) (hc : n ≤ c) (hz : ∀ t ∈ ts, t.1.fSeen.length ≤ 1048577) :
    Calls Tryz.prog 8 #[.slice a n c, .int .i64 p, .int .i64 q] w fun e w' => ∃ v, e = .returned v ∧ E0 w w' ∧ ∃ s us kk, v = .tuple #[s, kk, .bool (mergeTwoP (ts.map (·.1)) p q).2.2] ∧ us.map (·.1) = (mergeTwoP (ts.map (·.1)) p q).1 ∧ OwnT w' w.heap.size s us ∧ Own w' w.heap.size 63 3 kk ((mergeTwoP (ts.map (·.1)) p q).2.1.map encCla) := by
  refine enterK Non 42 Tryz.func8 rfl rfl rfl fun K hK => ?_
  cases hok : pairOk (ts.map (·.1)) p q with
  | false =>
    have hf := mergeTwo_no hok
    repeat (any_goals (
      conv => whnf
      first
      | ((with_reducible refine callF (g := 36) ?_ ?_); kernel_rfl; refine ⟨_, pairOf_c _ _ _ ts p q _ (by repeat (first | assumption | refine Row.e0 ?_ (by assumption))) (by exact hs) hn hm hc hz, ?_⟩; intro w4 e4; have z4 := cutLe e4)
      | ((with_reducible refine BIF.s (fun h => absurd h ?_) (fun _ => ?_)); focus (simp [hok]; done))
      | ((with_reducible refine BIF.s (fun _ => ?_) (fun h => absurd h ?_)); rotate_left; focus (simp [hok]; done))
      | ((with_reducible refine BIF.dec ?_ ?_) <;> intro _)
      | ((with_reducible refine BIF.s ?_ ?_) <;> intro _)
      | (with_reducible refine NEXTK.normal ?_)
      | (with_reducible refine NEXTK.ret ?_)
      | (with_reducible refine NEXTK.exit ?_)
      | (with_reducible refine SEQ.plain ?_)
      | (with_reducible refine hK _ _ ?_)
      | ((with_reducible refine RUNL.agg (fun _ => ?_) ?_); (focus kernel_rfl))
      | (with_reducible refine RUNL.run ?_)
      | ((with_reducible refine AR.ok ?_ ?_); exact ⟨by first | omega | (dsimp only; omega), by first | omega | (dsimp only; omega)⟩)
      | (with_reducible refine AR.wr ?_)
      | ((with_reducible intro w3 e3); try have z3 := cutLe e3)
      | ((with_reducible intro h3); have h4 := Nat.le_of_lt h3; clear h4)))
    intro hx'
    rw [hf]
    exact ⟨_, rfl, hx', _, [], _, rfl, rfl, OwnT.nil _ _, Own.nil _ _ _ _⟩
  | true =>
    obtain ⟨i, k, x, y, h1, h2, hik, hkl, hx, hy, hA, -, -, -, -⟩ := pair_at hok
    obtain ⟨tx, htx, hex⟩ := fst_in hx
    obtain ⟨ty, hty, hey⟩ := fst_in hy
    have hmx := List.mem_of_getElem? htx
    have hmy := List.mem_of_getElem? hty
    have hlt1 := (List.getElem?_eq_some_iff.1 htx).1
    have hlt2 := (List.getElem?_eq_some_iff.1 hty).1
    have his := hr.isSome (by simp; omega)
    obtain ⟨h12, hz2, hc2, hy2⟩ := areE_bnd hA
    have hpo : ∀ w', E0 w w' → Calls Tryz.prog 36 #[.slice a n c, .int .i64 p, .int .i64 q] w' fun e w'' => e = .returned (.tuple #[.int .i64 i, .int .i64 k, .bool true]) ∧ E0 w' w'' := fun w' e => by
      have := pairOf_c a n c ts p q w' (hr.e0 e) (hs.e0 e) hn hm hc hz
      rw [h1, h2, hok] at this
      exact this
    repeat (any_goals (
      conv => whnf
      first
      | ((with_reducible refine BIF.dec ?_ ?_) <;> intro _)
      | ((with_reducible refine BIF.s ?_ ?_) <;> intro _)
      | (with_reducible refine NEXTK.normal ?_)
      | (with_reducible refine NEXTK.ret ?_)
      | (with_reducible refine NEXTK.exit ?_)
      | (with_reducible refine SEQ.plain ?_)
      | (with_reducible refine hK _ _ ?_)
      | ((with_reducible refine RUNL.agg (fun _ => ?_) ?_); (focus kernel_rfl))
      | (with_reducible refine RUNL.run ?_)
      | ((with_reducible refine AR.ok ?_ ?_); exact ⟨by first | omega | (dsimp only; omega), by first | omega | (dsimp only; omega)⟩)
      | (with_reducible refine AR.wr ?_)
      | ((with_reducible intro w3 e3); try have z3 := cutLe e3)
      | ((with_reducible intro h3); have h4 := Nat.le_of_lt h3; clear h4)))
    conv => whnf
    refine callX (g := 36) (by kernel_rfl) (fun hX => ⟨_, hpo _ hX, fun w4 e4 => ?_⟩)
    have z4 := cutLe e4
    repeat (any_goals (
      conv => whnf
      first
      | ((with_reducible refine BIF.s (fun h => absurd h ?_) (fun _ => ?_)); focus (first | (simp; done) | (simp; omega)))
      | ((with_reducible refine BIF.s (fun _ => ?_) (fun h => absurd h ?_)); rotate_left; focus (first | (simp; done) | (simp; omega)))
      | ((with_reducible refine callY (g := 37) ?_ ?_); kernel_rfl; refine ⟨_, fun hX => mergeAt_c a n c i k ts _ (hr.ext hX (mAddr_Non _)) (fun t ht => (hs t ht).ext hX (mAddr_Non _)) hn (by omega) (by omega) (by omega) hz2 hc2, ?_⟩; intro r5 w5 e5 h5; have z5 := cutLe e5; obtain ⟨s, us, rfl, hus, hO⟩ := h5; obtain ⟨b5, d5, rfl, q5, s5, p5⟩ := hO.rowx)
      | ((with_reducible refine BIF.not ?_))
      | ((with_reducible refine BIF.s (fun (hgo : areE (mergeP (ts.map (·.1)) i k) = true) => ?_) (fun (hgo : areE (mergeP (ts.map (·.1)) i k) = false) => ?_)))
      | ((with_reducible refine BIF.dec ?_ ?_) <;> intro _)
      | ((with_reducible refine BIF.s ?_ ?_) <;> intro _)
      | (with_reducible refine NEXTK.normal ?_)
      | (with_reducible refine NEXTK.ret ?_)
      | (with_reducible refine NEXTK.exit ?_)
      | (with_reducible refine SEQ.plain ?_)
      | (with_reducible refine hK _ _ ?_)
      | ((with_reducible refine RUNL.agg (fun _ => ?_) ?_); (focus kernel_rfl))
      | (with_reducible refine RUNL.run ?_)
      | ((with_reducible refine AR.ok ?_ ?_); exact ⟨by first | omega | (dsimp only; omega), by first | omega | (dsimp only; omega)⟩)
      | (with_reducible refine AR.wr ?_)
      | ((with_reducible intro w3 e3); try have z3 := cutLe e3)
      | ((with_reducible intro h3); have h4 := Nat.le_of_lt h3; clear h4)))
    · have hf := mergeTwo_ok hok h1 h2 hgo hx hy
      conv => whnf
      (with_reducible refine DRAW.held (id := 7) (Non) [0, 1, 2, 3, 4, 5, 6, 7, 8] (.start (.alt 9 (.one 10 (.one 11 (.one 12 .done))) .stop)) ?_ ?_ ?_ ?_); kernel_rfl; kernel_rfl; kernel_rfl
      intro w3 e3 hE
      have z3 := cutLe e3
      replace hO := hO.e0 e3
      repeat (any_goals (
        conv => whnf
        first
        | ((with_reducible intro w3 e3); have z3 := cutLe e3; replace hE := hE.trans' e3 (fun k hk h => by first | exact False.elim h | exact h | (exfalso; simp only [bk] at h; omega) | (simp only [bk] at h; omega)))
        | ((with_reducible refine And.intro ?_ ?_); (focus (first | exact mAddr_Non _ | (intro h; first | exact h | (simp only [bk] at h; omega)))))
        | (with_reducible refine And.intro hE ?_)
        | ((with_reducible refine OBL.mk ?_ (fun _ => ?_)); exact ⟨by first | omega | (dsimp only; omega), by first | omega | (dsimp only; omega), his⟩)
        | ((with_reducible refine ELD.at (i) hr ?_ ?_ ?_ (fun x' hx' => ?_)); exact mAddr_Non _; (first | rfl | omega); exact hlt1; obtain rfl : tx = x' := by (rw [htx] at hx'; exact Option.some.inj hx'))
        | ((with_reducible refine ELD.at (k) hr ?_ ?_ ?_ (fun x' hx' => ?_)); exact mAddr_Non _; (first | rfl | omega); exact hlt2; obtain rfl : ty = x' := by (rw [hty] at hx'; exact Option.some.inj hx'))
        | ((with_reducible refine callY (g := 38) ?_ ?_); kernel_rfl; refine ⟨_, fun hX => clashes_c tx ty _ (TabIs.e0 hT hX) (hy2 tx hmx) (hy2 ty hmy), ?_⟩; intro r6 w6 e6 oC; have z6 := cutLe e6; replace hE := hE.trans (Ext.of0 e6); replace hO := hO.e0 e6; obtain ⟨b6, d6, rfl, q6, p6⟩ := oC.rowx)
        | (with_reducible refine And.intro ?_ ?_)
        | (exact True.intro)
        | ((with_reducible refine BIF.dec ?_ ?_) <;> intro _)
        | ((with_reducible refine BIF.s ?_ ?_) <;> intro _)
        | (with_reducible refine NEXTK.normal ?_)
        | (with_reducible refine NEXTK.ret ?_)
        | (with_reducible refine NEXTK.exit ?_)
        | (with_reducible refine SEQ.plain ?_)
        | (with_reducible refine hK _ _ ?_)
        | ((with_reducible refine RUNL.agg (fun _ => ?_) ?_); (focus kernel_rfl))
        | (with_reducible refine RUNL.run ?_)
        | ((with_reducible refine AR.ok ?_ ?_); exact ⟨by first | omega | (dsimp only; omega), by first | omega | (dsimp only; omega)⟩)
        | (with_reducible refine AR.wr ?_)
        | ((with_reducible intro w3 e3); try have z3 := cutLe e3)
        | ((with_reducible intro h3); have h4 := Nat.le_of_lt h3; clear h4)))
      intro hx'
      rw [hf, ← hex, ← hey]
      exact ⟨_, rfl, hx', _, us, _, rfl, hus, hO.lo (by omega), oC.lo (by omega)⟩
    · have hf := mergeTwo_bad h1 h2 hgo
      intro hx'
      rw [hf]
      exact ⟨_, rfl, hx', _, [], _, rfl, rfl, OwnT.nil _ _, Own.nil _ _ _ _⟩
theorem MergeTwoS_c (a : Option Addr) (n c : Nat) (ts : List Tri) (p q : Int) (w : World) (hr : Row w a 6 (ts.map encT)) (hs : SeenAt w ts) (hn : ts.length = n) (hm : n ≤ 1048577) (hg : sizT ts) :
    Calls Tryz.prog 6 #[.slice a n c, .int .i64 p, .int .i64 q] w fun e w' => ∃ v, e = .returned v ∧ E0 w w' ∧ ∃ s us kk, v = .tuple #[s, kk, .bool (mergeTwoP (ts.map (·.1)) p q).2.2] ∧ us.map (·.1) = (mergeTwoP (ts.map (·.1)) p q).1 ∧ OwnT w' w.heap.size s us ∧ Own w' w.heap.size 63 3 kk ((mergeTwoP (ts.map (·.1)) p q).2.1.map encCla) := by
  refine enterK Non 47 Tryz.func6 rfl rfl rfl fun K hK => ?_
  cases hok : pairOk (ts.map (·.1)) p q with
  | false =>
    have hf := mergeTwo_no hok
    repeat (any_goals (
      conv => whnf
      first
      | ((with_reducible refine bsS elemT [] rfl rfl (by simp) (by omega) (fun w9 e9 oN => ?_)); have z9 := cutLe e9)
      | ((with_reducible refine bsS elemCla [] rfl rfl (by simp) (by omega) (fun w9 e9 oM => ?_)); have z9 := cutLe e9; replace oN := oN.e0 e9)
      | ((with_reducible refine callF (g := 32) ?_ ?_); kernel_rfl; refine ⟨_, l25Pair_c _ _ _ ts p q _ (by repeat (first | assumption | refine Row.e0 ?_ (by assumption))) (by exact hs) hn hm hg, ?_⟩; intro w4 e4; have z4 := cutLe e4)
      | ((with_reducible refine BIF.s (fun h => absurd h ?_) (fun _ => ?_)); focus (simp [hok]; done))
      | ((with_reducible refine BIF.s (fun _ => ?_) (fun h => absurd h ?_)); rotate_left; focus (simp [hok]; done))
      | ((with_reducible refine BIF.dec ?_ ?_) <;> intro _)
      | ((with_reducible refine BIF.s ?_ ?_) <;> intro _)
      | (with_reducible refine NEXTK.normal ?_)
      | (with_reducible refine NEXTK.ret ?_)
      | (with_reducible refine NEXTK.exit ?_)
      | (with_reducible refine SEQ.plain ?_)
      | (with_reducible refine hK _ _ ?_)
      | ((with_reducible refine RUNL.agg (fun _ => ?_) ?_); (focus kernel_rfl))
      | (with_reducible refine RUNL.run ?_)
      | ((with_reducible refine AR.ok ?_ ?_); exact ⟨by first | omega | (dsimp only; omega), by first | omega | (dsimp only; omega)⟩)
      | (with_reducible refine AR.wr ?_)
      | ((with_reducible intro w3 e3); try have z3 := cutLe e3)
      | ((with_reducible intro h3); have h4 := Nat.le_of_lt h3; clear h4)))
    intro hx'
    rw [hf]
    exact ⟨_, rfl, hx', _, [], _, rfl, rfl, OwnT.mk' (oN.lo (by omega)) (by simp) List.Pairwise.nil, oM.lo (by omega)⟩
  | true =>
    obtain ⟨i, k, x, y, h1, h2, hik, hkl, hx, hy, hA, -, -, -, -⟩ := pair_at hok
    obtain ⟨tx, htx, hex⟩ := fst_in hx
    obtain ⟨ty, hty, hey⟩ := fst_in hy
    have hmx := List.mem_of_getElem? htx
    have hmy := List.mem_of_getElem? hty
    have hlt1 := (List.getElem?_eq_some_iff.1 htx).1
    have hlt2 := (List.getElem?_eq_some_iff.1 hty).1
    obtain ⟨hup, hnd⟩ := areE_nodup hA (by rw [hex]; exact hx : (ts.map (·.1))[i]? = some tx.1) (by rw [hey]; exact hy : (ts.map (·.1))[k]? = some ty.1) (by omega)
    have his := hr.isSome (by simp; omega)
    obtain ⟨h12, hz2, hc2, hy2⟩ := areE_bnd hA
    have hpo : ∀ w', E0 w w' → Calls Tryz.prog 32 #[.slice a n c, .int .i64 p, .int .i64 q] w' fun e w'' => e = .returned (.tuple #[.int .i64 i, .int .i64 k, .bool true]) ∧ E0 w' w'' := fun w' e => by
      have := l25Pair_c a n c ts p q w' (hr.e0 e) (hs.e0 e) hn hm hg
      rw [hok] at this
      simp only [if_true, h1, h2] at this
      exact this
    repeat (any_goals (
      conv => whnf
      first
      | ((with_reducible refine BIF.dec ?_ ?_) <;> intro _)
      | ((with_reducible refine BIF.s ?_ ?_) <;> intro _)
      | (with_reducible refine NEXTK.normal ?_)
      | (with_reducible refine NEXTK.ret ?_)
      | (with_reducible refine NEXTK.exit ?_)
      | (with_reducible refine SEQ.plain ?_)
      | (with_reducible refine hK _ _ ?_)
      | ((with_reducible refine RUNL.agg (fun _ => ?_) ?_); (focus kernel_rfl))
      | (with_reducible refine RUNL.run ?_)
      | ((with_reducible refine AR.ok ?_ ?_); exact ⟨by first | omega | (dsimp only; omega), by first | omega | (dsimp only; omega)⟩)
      | (with_reducible refine AR.wr ?_)
      | ((with_reducible intro w3 e3); try have z3 := cutLe e3)
      | ((with_reducible intro h3); have h4 := Nat.le_of_lt h3; clear h4)))
    conv => whnf
    refine callX (g := 32) (by kernel_rfl) (fun hX => ⟨_, hpo _ hX, fun w4 e4 => ?_⟩)
    have z4 := cutLe e4
    repeat (any_goals (
      conv => whnf
      first
      | ((with_reducible refine bsS elemT [] rfl rfl (by simp) (by omega) (fun w9 e9 oN => ?_)); have z9 := cutLe e9)
      | ((with_reducible refine bsS elemCla [] rfl rfl (by simp) (by omega) (fun w9 e9 oM => ?_)); have z9 := cutLe e9; replace oN := oN.e0 e9)
      | ((with_reducible refine BIF.s (fun h => absurd h ?_) (fun _ => ?_)); focus (first | (simp; done) | (simp; omega)))
      | ((with_reducible refine BIF.s (fun _ => ?_) (fun h => absurd h ?_)); rotate_left; focus (first | (simp; done) | (simp; omega)))
      | ((with_reducible refine callY (g := 33) ?_ ?_); kernel_rfl; refine ⟨_, fun hX => l25Merged_c a n c i k ts tx ty _ (hr.ext hX (mAddr_Non _)) (fun t ht => (hs t ht).ext hX (mAddr_Non _)) hn (by omega) htx hty hz2 hg hc2 hup hnd, ?_⟩; intro r5 w5 e5 h5; have z5 := cutLe e5; obtain ⟨s, us, rfl, hus, hO⟩ := h5; obtain ⟨b5, d5, rfl, q5, s5, p5⟩ := hO.rowx)
      | ((with_reducible refine BIF.not ?_))
      | ((with_reducible refine BIF.s (fun (hgo : areE (mergeP (ts.map (·.1)) i k) = true) => ?_) (fun (hgo : areE (mergeP (ts.map (·.1)) i k) = false) => ?_)))
      | ((with_reducible refine BIF.dec ?_ ?_) <;> intro _)
      | ((with_reducible refine BIF.s ?_ ?_) <;> intro _)
      | (with_reducible refine NEXTK.normal ?_)
      | (with_reducible refine NEXTK.ret ?_)
      | (with_reducible refine NEXTK.exit ?_)
      | (with_reducible refine SEQ.plain ?_)
      | (with_reducible refine hK _ _ ?_)
      | ((with_reducible refine RUNL.agg (fun _ => ?_) ?_); (focus kernel_rfl))
      | (with_reducible refine RUNL.run ?_)
      | ((with_reducible refine AR.ok ?_ ?_); exact ⟨by first | omega | (dsimp only; omega), by first | omega | (dsimp only; omega)⟩)
      | (with_reducible refine AR.wr ?_)
      | ((with_reducible intro w3 e3); try have z3 := cutLe e3)
      | ((with_reducible intro h3); have h4 := Nat.le_of_lt h3; clear h4)))
    · have hf := mergeTwo_ok hok h1 h2 hgo hx hy
      conv => whnf
      (with_reducible refine DRAW.held (id := 7) (Non) [0, 1, 2, 3, 4, 5, 6, 7, 8] (.start (.alt 9 (.one 10 (.one 11 (.one 12 .done))) .stop)) ?_ ?_ ?_ ?_); kernel_rfl; kernel_rfl; kernel_rfl
      intro w3 e3 hE
      have z3 := cutLe e3
      replace hO := hO.e0 e3
      repeat (any_goals (
        conv => whnf
        first
        | ((with_reducible intro w3 e3); have z3 := cutLe e3; replace hE := hE.trans' e3 (fun k hk h => by first | exact False.elim h | exact h | (exfalso; simp only [bk] at h; omega) | (simp only [bk] at h; omega)))
        | ((with_reducible refine And.intro ?_ ?_); (focus (first | exact mAddr_Non _ | (intro h; first | exact h | (simp only [bk] at h; omega)))))
        | (with_reducible refine And.intro hE ?_)
        | ((with_reducible refine OBL.mk ?_ (fun _ => ?_)); exact ⟨by first | omega | (dsimp only; omega), by first | omega | (dsimp only; omega), his⟩)
        | ((with_reducible refine ELD.at (i) hr ?_ ?_ ?_ (fun x' hx' => ?_)); exact mAddr_Non _; (first | rfl | omega); exact hlt1; obtain rfl : tx = x' := by (rw [htx] at hx'; exact Option.some.inj hx'))
        | ((with_reducible refine ELD.at (k) hr ?_ ?_ ?_ (fun x' hx' => ?_)); exact mAddr_Non _; (first | rfl | omega); exact hlt2; obtain rfl : ty = x' := by (rw [hty] at hx'; exact Option.some.inj hx'))
        | ((with_reducible refine callY (g := 34) ?_ ?_); kernel_rfl; refine ⟨_, fun hX => l25Clashes_c tx ty _ (hy2 tx hmx) (hy2 ty hmy), ?_⟩; intro r6 w6 e6 oC; have z6 := cutLe e6; replace hE := hE.trans (Ext.of0 e6); replace hO := hO.e0 e6; obtain ⟨b6, d6, rfl, q6, p6⟩ := oC.rowx)
        | (with_reducible refine And.intro ?_ ?_)
        | (exact True.intro)
        | ((with_reducible refine BIF.dec ?_ ?_) <;> intro _)
        | ((with_reducible refine BIF.s ?_ ?_) <;> intro _)
        | (with_reducible refine NEXTK.normal ?_)
        | (with_reducible refine NEXTK.ret ?_)
        | (with_reducible refine NEXTK.exit ?_)
        | (with_reducible refine SEQ.plain ?_)
        | (with_reducible refine hK _ _ ?_)
        | ((with_reducible refine RUNL.agg (fun _ => ?_) ?_); (focus kernel_rfl))
        | (with_reducible refine RUNL.run ?_)
        | ((with_reducible refine AR.ok ?_ ?_); exact ⟨by first | omega | (dsimp only; omega), by first | omega | (dsimp only; omega)⟩)
        | (with_reducible refine AR.wr ?_)
        | ((with_reducible intro w3 e3); try have z3 := cutLe e3)
        | ((with_reducible intro h3); have h4 := Nat.le_of_lt h3; clear h4)))
      intro hx'
      rw [hf, ← hex, ← hey]
      exact ⟨_, rfl, hx', _, us, _, rfl, hus, hO.lo (by omega), oC.lo (by omega)⟩
    · have hf := mergeTwo_bad h1 h2 hgo
      intro hx'
      rw [hf]
      exact ⟨_, rfl, hx', _, [], _, rfl, rfl, OwnT.mk' (oN.lo (by omega)) (by simp) List.Pairwise.nil, oM.lo (by omega)⟩
theorem bndMergeTwo {us ts : List Tri} {p q : Int} (h : us.map (·.1) = (mergeTwoP (ts.map (·.1)) p q).1) : lens us ≤ 96 ∧ (∀ t ∈ us, t.1.fSeen.length ≤ 8) ∧ us.length ≤ 12 := by
  refine areE_lens ?_
  rw [h]
  unfold mergeTwoP
  split
  · rename_i hA
    rw [Bool.and_eq_true] at hA
    exact hA.2
  · rfl
theorem OwnT.apartC {w : World} {lo lo' : Nat} {v v' : Value} {ts : List Tri} {ls : List (List Value)} (h : OwnT w lo v ts) (o : Own w lo' 63 3 v' ls) : ∀ b, v'.ownBlock = some b → ¬ blksT v ts b := by
  intro b hb h2
  rcases h2 with h2 | ⟨t, ht, h2⟩
  · exact own_ne h.top o (by decide) h2 hb
  · exact own_ne (h.sub t ht) o (by decide) h2 hb

end Go.Proofs.YtpddilkonkkppaaGreatDoor

/- Repairs, and what a work does. -/
import Derived.Test.YtgopcppegjhmiaaDoorRows
import Derived.Test.YtgopcppegjhmiaaDoorRep1
namespace Go.Proofs.YtgopcppegjhmiaaDoor
open Go Go.X Go.Proofs Go.ChangeShapes Go.WideShapes Go.ChangeAt Go.RowKit
open Go.ChangeMaps (open_string shut_string)
set_option maxHeartbeats 1000000
set_option maxRecDepth 20000
set_option linter.unusedVariables false
set_option linter.unusedSimpArgs false
def okRAt (xs : List Dmg) (ys : List Rep) (k : Nat) : Bool :=
  match ys[k]? with
  | some r => decide (0 ≤ dAt xs r.fSheet) && inB r.fWork 1 4 && inB r.fDay 0 4000 && (k == 0 || (match ys[k - 1]? with
      | some q => decide (q.fDay ≤ r.fDay)
      | none => true)) && !(decide (3 ≤ r.fWork) && linedP (ys.take k) r.fSheet)
  | none => true
def okRUp (xs : List Dmg) (ys : List Rep) (k : Nat) : Bool := (List.range k).all (okRAt xs ys)
theorem okRUp_succ (xs : List Dmg) (ys : List Rep) (k : Nat) : okRUp xs ys (k + 1) = (okRUp xs ys k && okRAt xs ys k) := by simp [okRUp, List.range_succ]
def areR (xs : List Dmg) (ys : List Rep) : Bool := areD xs && decide (ys.length ≤ 12) && okRUp xs ys ys.length
theorem areR_false {xs : List Dmg} {ys : List Rep} {k : Nat} (hk : k < ys.length) (h : okRAt xs ys k = false) : areR xs ys = false := by
  simp only [areR, okRUp, Bool.and_eq_false_iff]
  right
  rw [List.all_eq_false]
  exact ⟨k, by simpa using hk, by simp [h]⟩
theorem areR_spec {xs : List Dmg} {ys : List Rep} (h : areR xs ys = true) : areD xs = true ∧ ys.length ≤ 12 ∧ ∀ (k : Nat) r, ys[k]? = some r → okRAt xs ys k = true := by
  simp only [areR, Bool.and_eq_true, decide_eq_true_eq, okRUp, List.all_eq_true, List.mem_range] at h
  exact ⟨h.1.1, h.1.2, fun k r hr => h.2 k (List.getElem?_eq_some_iff.1 hr).1⟩
theorem areR_at {xs : List Dmg} {ys : List Rep} (h : areR xs ys = true) {k : Nat} {r : Rep} (hr : ys[k]? = some r) : 0 ≤ dAt xs r.fSheet ∧ (1 ≤ r.fWork ∧ r.fWork ≤ 4) ∧ (0 ≤ r.fDay ∧ r.fDay ≤ 4000) := by
  have := (areR_spec h).2.2 k r hr
  simp [okRAt, hr, inB] at this
  omega
theorem AreRepairs_c (a b : Option Addr) (n c m d : Nat) (xs : List Dmg) (ys : List Rep) (w : World) (hr : Row w a 4 (xs.map encDmg)) (hs : Row w b 3 (ys.map encRep)) (hn : xs.length = n) (hm : ys.length = m) (hn1 : n ≤ 4611686018427387904) (hm1 : m ≤ 4611686018427387904) (hc : m ≤ d ∧ d < 9223372036854775808) :
    Calls Tryd.prog 31 #[.slice a n c, .slice b m d] w fun e w' => e = .returned (.bool (areR xs ys)) ∧ E0 w w' := by
  refine enterK Non 66 Tryd.func31 rfl rfl rfl fun K hK => ?_
  by_cases h0 : areD xs = true ∧ m ≤ 12
  · have hA : areD xs = true := h0.1
    repeat (any_goals (
      conv => whnf
      first
      | ((with_reducible refine callF (g := 54) ?_ ?_); kernel_rfl; refine ⟨_, AreDamages_c _ _ _ xs _ (by repeat (first | assumption | refine Row.e0 ?_ (by assumption))) hn (by omega), ?_⟩; intro w4 e4; have z4 := cutLe e4)
      | ((with_reducible refine BIF.s (fun h => absurd h ?_) (fun _ => ?_)); focus (simp [hA]; done))
      | ((with_reducible refine BIF.s (fun _ => ?_) (fun h => absurd h ?_)); rotate_left; focus (simp [hA]; done))
      | ((exfalso; omega))
      | ((with_reducible refine BIF.dec ?_ ?_) <;> intro _)
      | ((with_reducible refine BIF.s ?_ ?_) <;> intro _)
      | (with_reducible refine NEXTK.normal ?_)
      | (with_reducible refine NEXTK.ret ?_)
      | (with_reducible refine NEXTK.exit ?_)
      | (with_reducible refine SEQ.plain ?_)
      | (with_reducible refine hK _ _ ?_)
      | ((with_reducible refine RUNL.agg (fun _ => ?_) ?_); (focus kernel_rfl))
      | (with_reducible refine RUNL.run ?_)
      | ((with_reducible refine AR.ok ?_ ?_); exact ⟨by first | omega | (dsimp only; omega), by first | omega | (dsimp only; omega)⟩)
      | (with_reducible refine AR.wr ?_)
      | ((with_reducible intro w3 e3); try have z3 := cutLe e3)
      | ((with_reducible intro h3); have h4 := Nat.le_of_lt h3; clear h4)))
    conv => whnf
    refine LOOP.mk Nat (fun k => [(17, .v (.int .i64 k))]) (fun k _ => k ≤ m ∧ okRUp xs ys k = true) (fun k => m - k) 0 rfl ⟨rfl, trivial⟩ ⟨Nat.zero_le _, rfl⟩ ?_
    rintro k wr ew ⟨hk, hok⟩
    conv => whnf
    repeat (first | ((with_reducible refine NEXTK.normal ?_); conv => whnf) | ((with_reducible refine NEXTK.exit ?_); conv => whnf) | ((with_reducible refine NEXTK.ret ?_); conv => whnf) | ((with_reducible refine SEQ.plain ?_); conv => whnf) | ((with_reducible refine AR.ok ?_ ?_); exact ⟨by omega, by omega⟩; conv => whnf))
    refine BIF.dec (fun hlt => ?_) (fun hlt => ?_)
    · have hlt' : k < ys.length := by omega
      have his := hs.isSome (by simp; omega)
      obtain ⟨x, hx⟩ : ∃ x, ys[k]? = some x := ⟨ys[k]'(by omega), by simp⟩
      have hsb := hs.sub 0 k d (by omega)
      have e0 : (ys.drop (Int.toNat 0)).take ((k : Int).toNat - Int.toNat 0) = ys.take k := by simp
      rw [e0] at hsb
      repeat (any_goals (
        conv => whnf
        first
        | ((with_reducible refine OBL.mk ?_ (fun _ => ?_)); exact ⟨by first | omega | (dsimp only; omega), by first | omega | (dsimp only; omega), his⟩)
        | ((with_reducible refine ELD.at (k) hs ?_ ?_ ?_ (fun x' hx' => ?_)); exact mAddr_Non _; (first | rfl | omega); exact hlt'; obtain rfl : x = x' := by (rw [hx] at hx'; exact Option.some.inj hx'))
        | ((with_reducible refine DRAW.quietE ?_ ?_ ?_); kernel_rfl; kernel_rfl)
        | ((with_reducible refine callQX (g := 43) ?_ ?_); kernel_rfl; refine ⟨_, fun w8 _ hX => damageAt_c _ _ _ xs _ _ (hr.e0 hX) hn hn1, ?_⟩)
        | ((with_reducible refine callQX (g := 34) ?_ ?_); kernel_rfl; refine ⟨_, fun w8 _ hX => within_c _ _ _ _, ?_⟩)
        | ((with_reducible refine callQX (g := 44) ?_ ?_); kernel_rfl; refine ⟨_, fun w8 _ hX => isDay_c _ _, ?_⟩)
        | ((with_reducible refine ELD.at (k - 1) hs ?_ ?_ ?_ (fun y hy => ?_)); exact mAddr_Non _; omega; omega)
        | ((with_reducible refine OBL.mk ?_ (fun _ => ?_)); omega)
        | ((with_reducible refine callQX (g := 55) ?_ ?_); kernel_rfl; refine ⟨_, fun w8 _ hX => isLined_c _ _ _ (ys.take k) _ _ (hsb.e0 hX) (by simp; omega) (by omega), ?_⟩)
        | ((with_reducible refine BIF.dec ?_ ?_) <;> intro _)
        | ((with_reducible refine BIF.s ?_ ?_) <;> intro _)
        | (with_reducible refine NEXTK.normal ?_)
        | (with_reducible refine NEXTK.ret ?_)
        | (with_reducible refine NEXTK.exit ?_)
        | (with_reducible refine SEQ.plain ?_)
        | (with_reducible refine hK _ _ ?_)
        | ((with_reducible refine RUNL.agg (fun _ => ?_) ?_); (focus kernel_rfl))
        | (with_reducible refine RUNL.run ?_)
        | ((with_reducible refine AR.ok ?_ ?_); exact ⟨by first | omega | (dsimp only; omega), by first | omega | (dsimp only; omega)⟩)
        | (with_reducible refine AR.wr ?_)
        | ((with_reducible intro w3 e3); try have z3 := cutLe e3)
        | ((with_reducible intro h3); have h4 := Nat.le_of_lt h3; clear h4)))
      all_goals first
        | (intro hx'
           refine ⟨?_, hx'⟩
           rw [areR_false hlt' (by clear hK; simp_all [okRAt]; try omega)]; rfl)
        | (refine ⟨k + 1, rfl, ⟨rfl, trivial⟩, rfl, rfl, ⟨by omega, ?_⟩, by omega⟩
           rw [okRUp_succ, hok]
           clear hK
           simp_all [okRAt]; try omega)
    · have hkn : k = ys.length := by omega
      repeat (any_goals (
        conv => whnf
        first
        | ((with_reducible refine BIF.dec ?_ ?_) <;> intro _)
        | ((with_reducible refine BIF.s ?_ ?_) <;> intro _)
        | (with_reducible refine NEXTK.normal ?_)
        | (with_reducible refine NEXTK.ret ?_)
        | (with_reducible refine NEXTK.exit ?_)
        | (with_reducible refine SEQ.plain ?_)
        | (with_reducible refine hK _ _ ?_)
        | ((with_reducible refine RUNL.agg (fun _ => ?_) ?_); (focus kernel_rfl))
        | (with_reducible refine RUNL.run ?_)
        | ((with_reducible refine AR.ok ?_ ?_); exact ⟨by first | omega | (dsimp only; omega), by first | omega | (dsimp only; omega)⟩)
        | (with_reducible refine AR.wr ?_)
        | ((with_reducible intro w3 e3); try have z3 := cutLe e3)
        | ((with_reducible intro h3); have h4 := Nat.le_of_lt h3; clear h4)))
      intro hx'
      refine ⟨?_, hx'⟩
      rw [areR, ← hkn, hok, hA]
      simp [resV]; omega
  · repeat (any_goals (
      conv => whnf
      first
      | ((with_reducible refine callF (g := 54) ?_ ?_); kernel_rfl; refine ⟨_, AreDamages_c _ _ _ xs _ (by repeat (first | assumption | refine Row.e0 ?_ (by assumption))) hn (by omega), ?_⟩; intro w4 e4; have z4 := cutLe e4)
      | ((with_reducible refine BIF.dec ?_ ?_) <;> intro hle)
      | ((with_reducible refine BIF.s ?_ ?_) <;> intro hA)
      | ((exfalso; exact h0 ⟨by simpa using hA, by omega⟩))
      | ((with_reducible refine BIF.dec ?_ ?_) <;> intro _)
      | ((with_reducible refine BIF.s ?_ ?_) <;> intro _)
      | (with_reducible refine NEXTK.normal ?_)
      | (with_reducible refine NEXTK.ret ?_)
      | (with_reducible refine NEXTK.exit ?_)
      | (with_reducible refine SEQ.plain ?_)
      | (with_reducible refine hK _ _ ?_)
      | ((with_reducible refine RUNL.agg (fun _ => ?_) ?_); (focus kernel_rfl))
      | (with_reducible refine RUNL.run ?_)
      | ((with_reducible refine AR.ok ?_ ?_); exact ⟨by first | omega | (dsimp only; omega), by first | omega | (dsimp only; omega)⟩)
      | (with_reducible refine AR.wr ?_)
      | ((with_reducible intro w3 e3); try have z3 := cutLe e3)
      | ((with_reducible intro h3); have h4 := Nat.le_of_lt h3; clear h4)))
    all_goals
      intro hx'
      refine ⟨?_, hx'⟩
      have : areR xs ys = false := by
        cases h : areR xs ys with
        | false => rfl
        | true => exact absurd ⟨(areR_spec h).1, by have := (areR_spec h).2.1; omega⟩ h0
      rw [this]; rfl
theorem l22Good_c (a b : Option Addr) (n c m d : Nat) (xs : List Dmg) (ys : List Rep) (w : World) (hr : Row w a 4 (xs.map encDmg)) (hs : Row w b 3 (ys.map encRep)) (hn : xs.length = n) (hm : ys.length = m) (hn1 : n ≤ 4611686018427387904) (hm1 : m ≤ 4611686018427387904) (hc : m ≤ d ∧ d < 9223372036854775808) :
    Calls Tryd.prog 33 #[.slice a n c, .slice b m d] w fun e w' => e = .returned (.bool (areR xs ys)) ∧ E0 w w' := by
  refine enterK Non 70 Tryd.func33 rfl rfl rfl fun K hK => ?_
  by_cases hA : areD xs = true
  · repeat (any_goals (
      conv => whnf
      first
      | ((with_reducible refine callF (g := 56) ?_ ?_); kernel_rfl; refine ⟨_, l22Damages_c _ _ _ xs _ (by repeat (first | assumption | refine Row.e0 ?_ (by assumption))) hn (by omega), ?_⟩; intro w4 e4; have z4 := cutLe e4)
      | ((with_reducible refine BIF.s (fun h => absurd h ?_) (fun _ => ?_)); focus (simp [hA]; done))
      | ((with_reducible refine BIF.s (fun _ => ?_) (fun h => absurd h ?_)); rotate_left; focus (simp [hA]; done))
      | ((with_reducible refine BIF.dec ?_ ?_) <;> intro _)
      | ((with_reducible refine BIF.s ?_ ?_) <;> intro _)
      | (with_reducible refine NEXTK.normal ?_)
      | (with_reducible refine NEXTK.ret ?_)
      | (with_reducible refine NEXTK.exit ?_)
      | (with_reducible refine SEQ.plain ?_)
      | (with_reducible refine hK _ _ ?_)
      | ((with_reducible refine RUNL.agg (fun _ => ?_) ?_); (focus kernel_rfl))
      | (with_reducible refine RUNL.run ?_)
      | ((with_reducible refine AR.ok ?_ ?_); exact ⟨by first | omega | (dsimp only; omega), by first | omega | (dsimp only; omega)⟩)
      | (with_reducible refine AR.wr ?_)
      | ((with_reducible intro w3 e3); try have z3 := cutLe e3)
      | ((with_reducible intro h3); have h4 := Nat.le_of_lt h3; clear h4)))
    conv => whnf
    refine LOOP.mk Nat (fun k => [(5, .v (.int .i64 k))]) (fun k _ => k ≤ m ∧ k ≤ 13 ∧ okRUp xs ys k = true) (fun k => m - k) 0 rfl ⟨rfl, trivial⟩ ⟨Nat.zero_le _, by omega, rfl⟩ ?_
    rintro k wr ew ⟨hk, hk2, hok⟩
    by_cases hgo : k < m ∧ k ≤ 12
    · have hlt' : k < ys.length := by omega
      have his := hs.isSome (by simp; omega)
      obtain ⟨x, hx⟩ : ∃ x, ys[k]? = some x := ⟨ys[k]'(by omega), by simp⟩
      have hsb := hs.sub 0 k d (by omega)
      have e0 : (ys.drop (Int.toNat 0)).take ((k : Int).toNat - Int.toNat 0) = ys.take k := by simp
      rw [e0] at hsb
      conv => whnf
      repeat (first | ((with_reducible refine NEXTK.normal ?_); conv => whnf) | ((with_reducible refine NEXTK.exit ?_); conv => whnf) | ((with_reducible refine NEXTK.ret ?_); conv => whnf) | ((with_reducible refine SEQ.plain ?_); conv => whnf) | ((with_reducible refine AR.ok ?_ ?_); exact ⟨by omega, by omega⟩; conv => whnf))
      refine BIF.dec (fun _ => ?_) (fun h => absurd hgo.1 (by omega))
      conv => whnf
      repeat (first | ((with_reducible refine NEXTK.normal ?_); conv => whnf) | ((with_reducible refine NEXTK.exit ?_); conv => whnf) | ((with_reducible refine NEXTK.ret ?_); conv => whnf) | ((with_reducible refine SEQ.plain ?_); conv => whnf) | ((with_reducible refine AR.ok ?_ ?_); exact ⟨by omega, by omega⟩; conv => whnf))
      refine BIF.dec (fun _ => ?_) (fun h => absurd hgo.2 (by omega))
      repeat (any_goals (
        conv => whnf
        first
        | ((with_reducible refine OBL.mk ?_ (fun _ => ?_)); exact ⟨by first | omega | (dsimp only; omega), by first | omega | (dsimp only; omega), his⟩)
        | ((with_reducible refine ELD.at (k) hs ?_ ?_ ?_ (fun x' hx' => ?_)); exact mAddr_Non _; (first | rfl | omega); exact hlt'; obtain rfl : x = x' := by (rw [hx] at hx'; exact Option.some.inj hx'))
        | ((with_reducible refine DRAW.quietE ?_ ?_ ?_); kernel_rfl; kernel_rfl)
        | ((with_reducible refine callQX (g := 57) ?_ ?_); kernel_rfl; refine ⟨_, fun w8 _ hX => l22Find_c _ _ _ xs _ _ (hr.e0 hX) hn hn1, ?_⟩)
        | ((with_reducible refine callQX (g := 40) ?_ ?_); kernel_rfl; refine ⟨_, fun w8 _ hX => l1In_c _ _ _ _, ?_⟩)
        | ((with_reducible refine callQX (g := 58) ?_ ?_); kernel_rfl; refine ⟨_, fun w8 _ hX => l2Day_c _ _, ?_⟩)
        | ((with_reducible refine ELD.at (k - 1) hs ?_ ?_ ?_ (fun y hy => ?_)); exact mAddr_Non _; omega; omega)
        | ((with_reducible refine OBL.mk ?_ (fun _ => ?_)); omega)
        | ((with_reducible refine callQX (g := 59) ?_ ?_); kernel_rfl; refine ⟨_, fun w8 _ hX => l22Lined_c _ _ _ (ys.take k) _ _ (hsb.e0 hX) (by simp; omega) (by omega), ?_⟩)
        | ((with_reducible refine BIF.dec ?_ ?_) <;> intro _)
        | ((with_reducible refine BIF.s ?_ ?_) <;> intro _)
        | (with_reducible refine NEXTK.normal ?_)
        | (with_reducible refine NEXTK.ret ?_)
        | (with_reducible refine NEXTK.exit ?_)
        | (with_reducible refine SEQ.plain ?_)
        | (with_reducible refine hK _ _ ?_)
        | ((with_reducible refine RUNL.agg (fun _ => ?_) ?_); (focus kernel_rfl))
        | (with_reducible refine RUNL.run ?_)
        | ((with_reducible refine AR.ok ?_ ?_); exact ⟨by first | omega | (dsimp only; omega), by first | omega | (dsimp only; omega)⟩)
        | (with_reducible refine AR.wr ?_)
        | ((with_reducible intro w3 e3); try have z3 := cutLe e3)
        | ((with_reducible intro h3); have h4 := Nat.le_of_lt h3; clear h4)))
      all_goals first
        | (intro hx'
           refine ⟨?_, hx'⟩
           rw [areR_false hlt' (by clear hK; simp_all [okRAt]; try omega)]; rfl)
        | (refine ⟨k + 1, rfl, ⟨rfl, trivial⟩, rfl, rfl, ⟨by omega, by omega, ?_⟩, by omega⟩
           rw [okRUp_succ, hok]
           clear hK
           simp_all [okRAt]; try omega)
    · conv => whnf
      repeat (first | ((with_reducible refine NEXTK.normal ?_); conv => whnf) | ((with_reducible refine NEXTK.exit ?_); conv => whnf) | ((with_reducible refine NEXTK.ret ?_); conv => whnf) | ((with_reducible refine SEQ.plain ?_); conv => whnf) | ((with_reducible refine AR.ok ?_ ?_); exact ⟨by omega, by omega⟩; conv => whnf))
      refine BIF.dec (fun h1 => ?_) (fun h1 => ?_)
      all_goals
        repeat (any_goals (
          conv => whnf
          first
          | ((with_reducible refine BIF.dec ?_ ?_) <;> intro _)
          | ((with_reducible refine BIF.s ?_ ?_) <;> intro _)
          | (with_reducible refine NEXTK.normal ?_)
          | (with_reducible refine NEXTK.ret ?_)
          | (with_reducible refine NEXTK.exit ?_)
          | (with_reducible refine SEQ.plain ?_)
          | (with_reducible refine hK _ _ ?_)
          | ((with_reducible refine RUNL.agg (fun _ => ?_) ?_); (focus kernel_rfl))
          | (with_reducible refine RUNL.run ?_)
          | ((with_reducible refine AR.ok ?_ ?_); exact ⟨by first | omega | (dsimp only; omega), by first | omega | (dsimp only; omega)⟩)
          | (with_reducible refine AR.wr ?_)
          | ((with_reducible intro w3 e3); try have z3 := cutLe e3)
          | ((with_reducible intro h3); have h4 := Nat.le_of_lt h3; clear h4)))
        all_goals first
          | (exfalso; omega)
          | (intro hx'
             refine ⟨?_, hx'⟩
             by_cases hkn : k = ys.length
             · rw [areR, ← hkn, hok, hA]
               simp [resV]; omega
             · have : ¬ ys.length ≤ 12 := by omega
               simp [resV, areR, this]; omega)
  · repeat (any_goals (
      conv => whnf
      first
      | ((with_reducible refine callF (g := 56) ?_ ?_); kernel_rfl; refine ⟨_, l22Damages_c _ _ _ xs _ (by repeat (first | assumption | refine Row.e0 ?_ (by assumption))) hn (by omega), ?_⟩; intro w4 e4; have z4 := cutLe e4)
      | ((with_reducible refine BIF.s ?_ ?_) <;> intro hA2)
      | ((exfalso; exact hA (by simpa using hA2)))
      | ((with_reducible refine BIF.dec ?_ ?_) <;> intro _)
      | ((with_reducible refine BIF.s ?_ ?_) <;> intro _)
      | (with_reducible refine NEXTK.normal ?_)
      | (with_reducible refine NEXTK.ret ?_)
      | (with_reducible refine NEXTK.exit ?_)
      | (with_reducible refine SEQ.plain ?_)
      | (with_reducible refine hK _ _ ?_)
      | ((with_reducible refine RUNL.agg (fun _ => ?_) ?_); (focus kernel_rfl))
      | (with_reducible refine RUNL.run ?_)
      | ((with_reducible refine AR.ok ?_ ?_); exact ⟨by first | omega | (dsimp only; omega), by first | omega | (dsimp only; omega)⟩)
      | (with_reducible refine AR.wr ?_)
      | ((with_reducible intro w3 e3); try have z3 := cutLe e3)
      | ((with_reducible intro h3); have h4 := Nat.le_of_lt h3; clear h4)))
    all_goals
      intro hx'
      refine ⟨?_, hx'⟩
      have : areR xs ys = false := by
        cases h : areR xs ys with
        | false => rfl
        | true => exact absurd (areR_spec h).1 hA
      rw [this]; rfl
theorem tdivI (x m : Int) (hm : 1 ≤ m) (hx : 0 ≤ x) : x.tdiv m = x / m := Int.tdiv_eq_ediv_of_nonneg hx
def after (x : Dmg) (k : Int) : Dmg :=
  if k = 1 then ⟨x.fSheet, x.fTears / 2, x.fFolds, x.fStain⟩
  else if k = 2 then ⟨x.fSheet, x.fTears, x.fFolds / 3, x.fStain⟩
  else if k = 3 then ⟨x.fSheet, min 50 (x.fTears + 1), x.fFolds, x.fStain / 4⟩
  else ⟨x.fSheet, 0, 0, min 100 (x.fStain + 5)⟩
def gradeD (x : Dmg) : Int := 2 * x.fTears + x.fFolds + x.fStain
theorem after_sheet (x : Dmg) (k : Int) : (after x k).fSheet = x.fSheet := by
  unfold after
  repeat (first | rfl | split)
theorem after_ok {x : Dmg} (h : okD x = true) (k : Int) : okD (after x k) = true := by
  have h0 := okD_spec h
  unfold after
  repeat (first | (simp [okD, inB]; omega) | split)
theorem grade_c (x : Dmg) (w : World) (h : okD x = true) : Calls Tryd.prog 39 #[.agg (encDmg x).toArray] w fun e w' => e = .returned (.int .i64 (gradeD x)) ∧ E0 w w' := by
  have h0 := okD_spec h
  refine enterK Non 12 Tryd.func39 rfl rfl rfl fun K hK => ?_
  repeat (any_goals (
    conv => whnf
    first
    | ((with_reducible refine BIF.dec ?_ ?_) <;> intro _)
    | ((with_reducible refine BIF.s ?_ ?_) <;> intro _)
    | (with_reducible refine NEXTK.normal ?_)
    | (with_reducible refine NEXTK.ret ?_)
    | (with_reducible refine NEXTK.exit ?_)
    | (with_reducible refine SEQ.plain ?_)
    | (with_reducible refine hK _ _ ?_)
    | ((with_reducible refine RUNL.agg (fun _ => ?_) ?_); (focus kernel_rfl))
    | (with_reducible refine RUNL.run ?_)
    | ((with_reducible refine AR.ok ?_ ?_); exact ⟨by first | omega | (dsimp only; omega), by first | omega | (dsimp only; omega)⟩)
    | (with_reducible refine AR.wr ?_)
    | ((with_reducible intro w3 e3); try have z3 := cutLe e3)
    | ((with_reducible intro h3); have h4 := Nat.le_of_lt h3; clear h4)))
  intro hx
  exact ⟨rfl, hx⟩
theorem l22Grade_c (x : Dmg) (w : World) (h : okD x = true) : Calls Tryd.prog 42 #[.agg (encDmg x).toArray] w fun e w' => e = .returned (.int .i64 (gradeD x)) ∧ E0 w w' := by
  have h0 := okD_spec h
  refine enterK Non 12 Tryd.func42 rfl rfl rfl fun K hK => ?_
  repeat (any_goals (
    conv => whnf
    first
    | ((with_reducible refine BIF.dec ?_ ?_) <;> intro _)
    | ((with_reducible refine BIF.s ?_ ?_) <;> intro _)
    | (with_reducible refine NEXTK.normal ?_)
    | (with_reducible refine NEXTK.ret ?_)
    | (with_reducible refine NEXTK.exit ?_)
    | (with_reducible refine SEQ.plain ?_)
    | (with_reducible refine hK _ _ ?_)
    | ((with_reducible refine RUNL.agg (fun _ => ?_) ?_); (focus kernel_rfl))
    | (with_reducible refine RUNL.run ?_)
    | ((with_reducible refine AR.ok ?_ ?_); exact ⟨by first | omega | (dsimp only; omega), by first | omega | (dsimp only; omega)⟩)
    | (with_reducible refine AR.wr ?_)
    | ((with_reducible intro w3 e3); try have z3 := cutLe e3)
    | ((with_reducible intro h3); have h4 := Nat.le_of_lt h3; clear h4)))
  intro hx
  exact ⟨rfl, hx⟩
theorem after_c (x : Dmg) (k : Int) (w : World) (h : okD x = true) : Calls Tryd.prog 60 #[.agg (encDmg x).toArray, .int .i64 k] w fun e w' => e = .returned (.agg (encDmg (after x k)).toArray) ∧ E0 w w' := by
  have h0 := okD_spec h
  have t1 := tdivI x.fTears 2 (by omega) h0.2.1.1
  have t2 := tdivI x.fFolds 3 (by omega) h0.2.2.1.1
  have t3 := tdivI x.fStain 4 (by omega) h0.2.2.2.1
  refine enterK Non 37 Tryd.func60 rfl rfl rfl fun K hK => ?_
  repeat (any_goals (
    conv => whnf
    first
    | ((with_reducible refine OBL.mk ?_ (fun _ => ?_)); decide)
    | ((with_reducible refine BIF.dec ?_ ?_) <;> intro _)
    | ((with_reducible refine BIF.s ?_ ?_) <;> intro _)
    | (with_reducible refine NEXTK.normal ?_)
    | (with_reducible refine NEXTK.ret ?_)
    | (with_reducible refine NEXTK.exit ?_)
    | (with_reducible refine SEQ.plain ?_)
    | (with_reducible refine hK _ _ ?_)
    | ((with_reducible refine RUNL.agg (fun _ => ?_) ?_); (focus kernel_rfl))
    | (with_reducible refine RUNL.run ?_)
    | ((with_reducible refine AR.ok ?_ ?_); exact ⟨by first | omega | (dsimp only; omega), by first | omega | (dsimp only; omega)⟩)
    | (with_reducible refine AR.wr ?_)
    | ((with_reducible intro w3 e3); try have z3 := cutLe e3)
    | ((with_reducible intro h3); have h4 := Nat.le_of_lt h3; clear h4)))
  all_goals
    intro hx
    refine ⟨?_, hx⟩
    clear hK
    subst_vars
    simp_all [after, encDmg, resV]
theorem l22Do_c (x : Dmg) (k : Int) (w : World) (h : okD x = true) (hk : 1 ≤ k ∧ k ≤ 4) : Calls Tryd.prog 63 #[.agg (encDmg x).toArray, .int .i64 k] w fun e w' => e = .returned (.agg (encDmg (after x k)).toArray) ∧ E0 w w' := by
  have h0 := okD_spec h
  have t1 := tdivI x.fTears 2 (by omega) h0.2.1.1
  have t2 := tdivI x.fFolds 3 (by omega) h0.2.2.1.1
  have t3 := tdivI x.fStain 4 (by omega) h0.2.2.2.1
  refine enterK Non 39 Tryd.func63 rfl rfl rfl fun K hK => ?_
  repeat (any_goals (
    conv => whnf
    first
    | ((with_reducible refine OBL.mk ?_ (fun _ => ?_)); decide)
    | ((with_reducible refine callF (g := 72) ?_ ?_); kernel_rfl; refine ⟨_, l1Least_c _ _ _, ?_⟩; intro w4 e4; have z4 := cutLe e4)
    | ((exfalso; omega))
    | ((with_reducible refine BIF.dec ?_ ?_) <;> intro _)
    | ((with_reducible refine BIF.s ?_ ?_) <;> intro _)
    | (with_reducible refine NEXTK.normal ?_)
    | (with_reducible refine NEXTK.ret ?_)
    | (with_reducible refine NEXTK.exit ?_)
    | (with_reducible refine SEQ.plain ?_)
    | (with_reducible refine hK _ _ ?_)
    | ((with_reducible refine RUNL.agg (fun _ => ?_) ?_); (focus kernel_rfl))
    | (with_reducible refine RUNL.run ?_)
    | ((with_reducible refine AR.ok ?_ ?_); exact ⟨by first | omega | (dsimp only; omega), by first | omega | (dsimp only; omega)⟩)
    | (with_reducible refine AR.wr ?_)
    | ((with_reducible intro w3 e3); try have z3 := cutLe e3)
    | ((with_reducible intro h3); have h4 := Nat.le_of_lt h3; clear h4)))
  rotate_right
  · exfalso
    clear hK
    simp only [beq_eq_false_iff_ne] at *
    omega
  all_goals first
    | (exfalso; omega)
    | (intro hx
       refine ⟨?_, hx⟩
       clear hK
       subst_vars
       simp_all [after, encDmg, resV])

end Go.Proofs.YtgopcppegjhmiaaDoor

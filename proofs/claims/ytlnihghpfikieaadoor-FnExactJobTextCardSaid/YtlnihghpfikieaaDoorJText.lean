/- The text of a job. -/
import Derived.Test.YtlnihghpfikieaaDoorRows
import Derived.Test.YtlnihghpfikieaaDoorScan6
import Derived.Test.YtlnihghpfikieaaDoorText
import Derived.Test.YtlnihghpfikieaaDoorStrs
namespace Go.Proofs.YtlnihghpfikieaaDoor
open Go Go.X Go.Proofs Go.ChangeShapes Go.WideShapes Go.ChangeAt Go.RowKit
open Go.ChangeMaps (open_string shut_string)
set_option maxHeartbeats 1000000
set_option maxRecDepth 20000
set_option linter.unusedVariables false
set_option linter.unusedSimpArgs false
def stateL : List ByteArray := [⟨#[105, 100, 108, 101]⟩, ⟨#[114, 117, 110, 115]⟩, ⟨#[104, 101, 108, 100]⟩, ⟨#[100, 111, 110, 101]⟩]
def stateS (s : Int) : ByteArray := stateL.getD s.toNat ByteArray.empty
theorem stateS_at {s : Int} {y : ByteArray} (h : stateL[s.toNat]? = some y) : y = stateS s := by
  unfold stateS
  rw [List.getD, h]; rfl
theorem stateS_size (s : Int) : (stateS s).size ≤ 4 := by
  unfold stateS
  have : s.toNat = 0 ∨ s.toNat = 1 ∨ s.toNat = 2 ∨ s.toNat = 3 ∨ 4 ≤ s.toNat := by omega
  rcases this with h | h | h | h | h
  · rw [h]; decide
  · rw [h]; decide
  · rw [h]; decide
  · rw [h]; decide
  · have : stateL[s.toNat]? = none := List.getElem?_eq_none h
    rw [List.getD, this]; decide
def tileS (x : Int) : ByteArray := if x = 0 then ⟨#[32, 45]⟩ else ⟨#[32]⟩ ++ numS x
def tilesS (s : ByteArray) (xs : List Int) : ByteArray := xs.foldl (fun s x => s ++ tileS x) s
theorem tilesS_take (s : ByteArray) {xs : List Int} {k : Nat} {x : Int} (h : xs[k]? = some x) : tilesS s (xs.take (k + 1)) = tilesS s (xs.take k) ++ tileS x := by
  unfold tilesS
  rw [List.take_add_one, h, List.foldl_append]; rfl
theorem tileS_size {x : Int} (h : 0 ≤ x ∧ x ≤ 100) : (tileS x).size ≤ 22 := by
  unfold tileS
  have := numS_size (n := x) (by omega) (by omega)
  split
  · decide
  · simp only [ByteArray.size_append, szA1]; omega
def jobP (j : Job) : ByteArray × Bool := if goodB j then (tilesS (stateS j.fState) j.fTiles, true) else (ByteArray.empty, false)
theorem goodB_spec {j : Job} (h : goodB j = true) : (1 ≤ j.fTiles.length ∧ j.fTiles.length ≤ 8) ∧ (0 ≤ j.fState ∧ j.fState ≤ 3) ∧ ∀ x ∈ j.fTiles, 0 ≤ x ∧ x ≤ 100 := by
  simp only [goodB, Bool.and_eq_true, inB, List.all_eq_true, decide_eq_true_eq] at h
  refine ⟨by omega, by omega, fun x hx => ?_⟩
  exact h.1.1.1.1.2 x hx
theorem JobTextS_c (j : Job) (a : Option Addr) (n c : Nat) (w : World) (hr : Row w a 1 (j.fTiles.map encI)) (hn : j.fTiles.length = n) (hm : n ≤ 1048577) :
    Calls Tryd.prog 5 #[.agg (encJob j a n c).toArray] w fun e w' => e = .returned (.tuple #[.string (jobP j).1, .bool (jobP j).2]) ∧ E0 w w' := by
  refine enterK Non 39 Tryd.func5 rfl rfl rfl fun K hK => ?_
  cases hg : goodB j with
  | false =>
    repeat (any_goals (
      conv => whnf
      first
      | ((with_reducible refine callF (g := 10) ?_ ?_); kernel_rfl; refine ⟨_, l29Good_c j _ _ _ _ (by repeat (first | assumption | refine Row.e0 ?_ (by assumption))) hn (by omega), ?_⟩; intro w4 e4; have z4 := cutLe e4)
      | ((with_reducible refine BIF.s (fun h => absurd h ?_) (fun _ => ?_)); focus (first | (simp; done) | (simp; omega)))
      | ((with_reducible refine BIF.s (fun _ => ?_) (fun h => absurd h ?_)); rotate_left; focus (first | (simp; done) | (simp; omega)))
      | ((with_reducible refine BIF.s (fun h => absurd h ?_) (fun _ => ?_)); focus (simp [hg]; done))
      | ((with_reducible refine BIF.s (fun _ => ?_) (fun h => absurd h ?_)); rotate_left; focus (simp [hg]; done))
      | ((with_reducible refine BIF.dec ?_ ?_) <;> intro _)
      | ((with_reducible refine BIF.s ?_ ?_) <;> intro _)
      | (with_reducible refine NEXTK.normal ?_)
      | (with_reducible refine NEXTK.ret ?_)
      | (with_reducible refine NEXTK.exit ?_)
      | (with_reducible refine SEQ.plain ?_)
      | (with_reducible refine hK _ _ ?_)
      | ((with_reducible refine RUNL.agg (fun _ => ?_) ?_); (focus kernel_rfl))
      | (with_reducible refine RUNL.run ?_)
      | ((with_reducible refine AR.ok ?_ ?_); exact ⟨by first | omega | (dsimp only; omega), by first | omega | (dsimp only; omega)⟩)
      | (with_reducible refine AR.wr ?_)
      | ((with_reducible intro w3 e3); try have z3 := cutLe e3)
      | ((with_reducible intro h3); have h4 := Nat.le_of_lt h3; clear h4)))
    intro hw
    refine ⟨?_, hw⟩
    simp only [jobP, hg]
    rfl
  | true =>
    obtain ⟨hv1, hv2, hv3⟩ := goodB_spec hg
    have his := hr.isSome (by simp; omega)
    repeat (any_goals (
      conv => whnf
      first
      | ((with_reducible refine callF (g := 10) ?_ ?_); kernel_rfl; refine ⟨_, l29Good_c j _ _ _ _ (by repeat (first | assumption | refine Row.e0 ?_ (by assumption))) hn (by omega), ?_⟩; intro w4 e4; have z4 := cutLe e4)
      | ((with_reducible refine BIF.s (fun h => absurd h ?_) (fun _ => ?_)); focus (simp [hg]; done))
      | ((with_reducible refine BIF.s (fun _ => ?_) (fun h => absurd h ?_)); rotate_left; focus (simp [hg]; done))
      | ((with_reducible refine bsS elemS [.string ⟨#[105, 100, 108, 101]⟩, .string ⟨#[114, 117, 110, 115]⟩, .string ⟨#[104, 101, 108, 100]⟩, .string ⟨#[100, 111, 110, 101]⟩] ?_ ?_ ?_ ?_ ?_); (focus rfl); (focus rfl); (focus (intro v hv; simp at hv; rcases hv with h | h | h | h <;> subst h <;> rfl)); (focus omega); intro w9 e9 oB; have z9 := cutLe e9)
      | ((with_reducible refine OBL.mk ?_ (fun _ => ?_)); (focus (exact ⟨by omega, by omega, rfl⟩)))
      | ((with_reducible refine ELD.atNow (enc := encS) (xs := stateL) j.fState.toNat (oB.row.1 : Row _ _ 1 (stateL.map encS)) ?_ ?_ (fun y hy => ?_)); (focus omega); (focus (show j.fState.toNat < 4; omega)); have hys : y = stateS j.fState := (stateS_at hy); have hyz := stateS_size j.fState)
      | ((with_reducible refine BIF.dec ?_ ?_) <;> intro _)
      | ((with_reducible refine BIF.s ?_ ?_) <;> intro _)
      | (with_reducible refine NEXTK.normal ?_)
      | (with_reducible refine NEXTK.ret ?_)
      | (with_reducible refine NEXTK.exit ?_)
      | (with_reducible refine SEQ.plain ?_)
      | (with_reducible refine hK _ _ ?_)
      | ((with_reducible refine RUNL.agg (fun _ => ?_) ?_); (focus kernel_rfl))
      | (with_reducible refine RUNL.run ?_)
      | ((with_reducible refine AR.ok ?_ ?_); exact ⟨by first | omega | (dsimp only; omega), by first | omega | (dsimp only; omega)⟩)
      | (with_reducible refine AR.wr ?_)
      | ((with_reducible intro w3 e3); try have z3 := cutLe e3)
      | ((with_reducible intro h3); have h4 := Nat.le_of_lt h3; clear h4)))
    conv => whnf
    refine LOOP.mk (Nat × ByteArray) (fun g => [(5, .v (.int .i64 g.1)), (4, .v (.string g.2))]) (fun g _ => g.1 ≤ n ∧ g.2 = tilesS (stateS j.fState) (j.fTiles.take g.1) ∧ g.2.size ≤ 4 + 22 * g.1) (fun g => n - g.1) (0, y) rfl ⟨rfl, rfl, trivial⟩ ⟨Nat.zero_le _, by rw [hys]; rfl, by rw [hys]; simp only; omega⟩ ?_
    rintro ⟨k, s⟩ wr - ⟨hk, hs, hz⟩
    simp only at hk hs hz
    dsimp only
    conv => whnf
    repeat (first | ((with_reducible refine NEXTK.normal ?_); conv => whnf) | ((with_reducible refine NEXTK.exit ?_); conv => whnf) | ((with_reducible refine NEXTK.ret ?_); conv => whnf) | ((with_reducible refine SEQ.plain ?_); conv => whnf) | ((with_reducible refine AR.ok ?_ ?_); exact ⟨by omega, by omega⟩; conv => whnf))
    refine BIF.dec (fun hlt => ?_) (fun hlt => ?_)
    · obtain ⟨x, hx⟩ : ∃ x, j.fTiles[k]? = some x := ⟨j.fTiles[k]'(by omega), by simp⟩
      have hxb := hv3 x (List.mem_of_getElem? hx)
      have ht := tilesS_take (stateS j.fState) hx
      have hts := tileS_size hxb
      have s1 := numS_size (n := x) (by omega) (by omega)
      have hlt' : k < j.fTiles.length := by omega
      repeat (any_goals (
        conv => whnf
        first
        | ((with_reducible refine OBL.mk ?_ (fun _ => ?_)); exact ⟨by first | omega | (dsimp only; omega), by first | omega | (dsimp only; omega), his⟩)
        | ((with_reducible refine ELD.at (k) hr ?_ ?_ ?_ (fun x' hx' => ?_)); exact mAddr_Non _; (first | rfl | omega); exact hlt'; obtain rfl : x = x' := by (rw [hx] at hx'; exact Option.some.inj hx'))
        | ((with_reducible refine BIF.beq ?_ ?_) <;> intro hx0)
        | ((with_reducible refine callF (g := 11) ?_ ?_); kernel_rfl; refine ⟨_, l1Num_z _ _ (by omega), ?_⟩; intro w4 e4; have z4 := cutLe e4)
        | ((with_reducible refine OBL.mk ?_ (fun _ => ?_)); (focus (simp only [ByteArray.size_append, szA1, szA2, szA3, szA4, szA8, szA9, szE]; omega)))
        | ((with_reducible refine BIF.dec ?_ ?_) <;> intro _)
        | ((with_reducible refine BIF.s ?_ ?_) <;> intro _)
        | (with_reducible refine NEXTK.normal ?_)
        | (with_reducible refine NEXTK.ret ?_)
        | (with_reducible refine NEXTK.exit ?_)
        | (with_reducible refine SEQ.plain ?_)
        | (with_reducible refine hK _ _ ?_)
        | ((with_reducible refine RUNL.agg (fun _ => ?_) ?_); (focus kernel_rfl))
        | (with_reducible refine RUNL.run ?_)
        | ((with_reducible refine AR.ok ?_ ?_); exact ⟨by first | omega | (dsimp only; omega), by first | omega | (dsimp only; omega)⟩)
        | (with_reducible refine AR.wr ?_)
        | ((with_reducible intro w3 e3); try have z3 := cutLe e3)
        | ((with_reducible intro h3); have h4 := Nat.le_of_lt h3; clear h4)))
      all_goals
        refine ⟨(k + 1, _), rfl, ⟨rfl, rfl, trivial⟩, rfl, rfl, ⟨by omega, ?_, ?_⟩, by omega⟩
      · rw [ht, ← hs]; simp only [tileS, if_pos hx0]
      · simp only [ByteArray.size_append, szA1, szA2]; omega
      · rw [ht, ← hs]; simp only [tileS, if_neg hx0]; rw [ByteArray.append_assoc]
      · simp only [ByteArray.size_append, szA1, szA2]; omega
    · have hkn : k = j.fTiles.length := by omega
      repeat (any_goals (
        conv => whnf
        first
        | ((with_reducible refine BIF.dec ?_ ?_) <;> intro _)
        | ((with_reducible refine BIF.s ?_ ?_) <;> intro _)
        | (with_reducible refine NEXTK.normal ?_)
        | (with_reducible refine NEXTK.ret ?_)
        | (with_reducible refine NEXTK.exit ?_)
        | (with_reducible refine SEQ.plain ?_)
        | (with_reducible refine hK _ _ ?_)
        | ((with_reducible refine RUNL.agg (fun _ => ?_) ?_); (focus kernel_rfl))
        | (with_reducible refine RUNL.run ?_)
        | ((with_reducible refine AR.ok ?_ ?_); exact ⟨by first | omega | (dsimp only; omega), by first | omega | (dsimp only; omega)⟩)
        | (with_reducible refine AR.wr ?_)
        | ((with_reducible intro w3 e3); try have z3 := cutLe e3)
        | ((with_reducible intro h3); have h4 := Nat.le_of_lt h3; clear h4)))
      intro hw
      refine ⟨?_, hw⟩
      rw [hs, hkn, List.take_length]
      simp only [jobP, hg, if_true]
      rfl
theorem JobText_c (j : Job) (a : Option Addr) (n c : Nat) (w : World) (ht0 : Tab w) (hr : Row w a 1 (j.fTiles.map encI)) (hn : j.fTiles.length = n) (hm : n ≤ 1048577) (hc : n ≤ c ∧ c < 9223372036854775808) :
    Calls Tryd.prog 7 #[.agg (encJob j a n c).toArray] w fun e w' => e = .returned (.tuple #[.string (jobP j).1, .bool (jobP j).2]) ∧ E0 w w' := by
  refine enterK Non 33 Tryd.func7 rfl rfl rfl fun K hK => ?_
  cases hg : goodB j with
  | false =>
    repeat (any_goals (
      conv => whnf
      first
      | ((with_reducible refine callF (g := 13) ?_ ?_); kernel_rfl; refine ⟨_, IsScanJob_c j _ _ _ _ (by repeat (first | assumption | refine Row.e0 ?_ (by assumption))) hn (by omega) hc, ?_⟩; intro w4 e4; have z4 := cutLe e4)
      | ((with_reducible refine BIF.s (fun h => absurd h ?_) (fun _ => ?_)); focus (first | (simp; done) | (simp; omega)))
      | ((with_reducible refine BIF.s (fun _ => ?_) (fun h => absurd h ?_)); rotate_left; focus (first | (simp; done) | (simp; omega)))
      | ((with_reducible refine BIF.s (fun h => absurd h ?_) (fun _ => ?_)); focus (simp [hg]; done))
      | ((with_reducible refine BIF.s (fun _ => ?_) (fun h => absurd h ?_)); rotate_left; focus (simp [hg]; done))
      | ((with_reducible refine BIF.dec ?_ ?_) <;> intro _)
      | ((with_reducible refine BIF.s ?_ ?_) <;> intro _)
      | (with_reducible refine NEXTK.normal ?_)
      | (with_reducible refine NEXTK.ret ?_)
      | (with_reducible refine NEXTK.exit ?_)
      | (with_reducible refine SEQ.plain ?_)
      | (with_reducible refine hK _ _ ?_)
      | ((with_reducible refine RUNL.agg (fun _ => ?_) ?_); (focus kernel_rfl))
      | (with_reducible refine RUNL.run ?_)
      | ((with_reducible refine AR.ok ?_ ?_); exact ⟨by first | omega | (dsimp only; omega), by first | omega | (dsimp only; omega)⟩)
      | (with_reducible refine AR.wr ?_)
      | ((with_reducible intro w3 e3); try have z3 := cutLe e3)
      | ((with_reducible intro h3); have h4 := Nat.le_of_lt h3; clear h4)))
    intro hw
    refine ⟨?_, hw⟩
    simp only [jobP, hg]
    rfl
  | true =>
    obtain ⟨hv1, hv2, hv3⟩ := goodB_spec hg
    have his := hr.isSome (by simp; omega)
    repeat (any_goals (
      conv => whnf
      first
      | ((with_reducible refine callF (g := 13) ?_ ?_); kernel_rfl; refine ⟨_, IsScanJob_c j _ _ _ _ (by repeat (first | assumption | refine Row.e0 ?_ (by assumption))) hn (by omega) hc, ?_⟩; intro w4 e4; have z4 := cutLe e4)
      | ((with_reducible refine BIF.s (fun h => absurd h ?_) (fun _ => ?_)); focus (simp [hg]; done))
      | ((with_reducible refine BIF.s (fun _ => ?_) (fun h => absurd h ?_)); rotate_left; focus (simp [hg]; done))
      | ((with_reducible refine bsS elemS [.string ⟨#[105, 100, 108, 101]⟩, .string ⟨#[114, 117, 110, 115]⟩, .string ⟨#[104, 101, 108, 100]⟩, .string ⟨#[100, 111, 110, 101]⟩] ?_ ?_ ?_ ?_ ?_); (focus rfl); (focus rfl); (focus (intro v hv; simp at hv; rcases hv with h | h | h | h <;> subst h <;> rfl)); (focus omega); intro w9 e9 oB; have z9 := cutLe e9)
      | ((with_reducible refine OBL.mk ?_ (fun _ => ?_)); (focus (exact ⟨by omega, by omega, rfl⟩)))
      | ((with_reducible refine ELD.atNow (enc := encS) (xs := stateL) j.fState.toNat (oB.row.1 : Row _ _ 1 (stateL.map encS)) ?_ ?_ (fun y hy => ?_)); (focus omega); (focus (show j.fState.toNat < 4; omega)); have hys : y = stateS j.fState := (stateS_at hy); have hyz := stateS_size j.fState)
      | ((with_reducible refine BIF.dec ?_ ?_) <;> intro _)
      | ((with_reducible refine BIF.s ?_ ?_) <;> intro _)
      | (with_reducible refine NEXTK.normal ?_)
      | (with_reducible refine NEXTK.ret ?_)
      | (with_reducible refine NEXTK.exit ?_)
      | (with_reducible refine SEQ.plain ?_)
      | (with_reducible refine hK _ _ ?_)
      | ((with_reducible refine RUNL.agg (fun _ => ?_) ?_); (focus kernel_rfl))
      | (with_reducible refine RUNL.run ?_)
      | ((with_reducible refine AR.ok ?_ ?_); exact ⟨by first | omega | (dsimp only; omega), by first | omega | (dsimp only; omega)⟩)
      | (with_reducible refine AR.wr ?_)
      | ((with_reducible intro w3 e3); try have z3 := cutLe e3)
      | ((with_reducible intro h3); have h4 := Nat.le_of_lt h3; clear h4)))
    conv => whnf
    refine LOOP.mk (Nat × ByteArray) (fun g => [(18, .v (.int .i64 g.1)), (4, .v (.string g.2))]) (fun g _ => g.1 ≤ n ∧ g.2 = tilesS (stateS j.fState) (j.fTiles.take g.1) ∧ g.2.size ≤ 4 + 22 * g.1) (fun g => n - g.1) (0, y) rfl ⟨rfl, rfl, trivial⟩ ⟨Nat.zero_le _, by rw [hys]; rfl, by rw [hys]; simp only; omega⟩ ?_
    rintro ⟨k, s⟩ wr hXr ⟨hk, hs, hz⟩
    simp only at hk hs hz
    dsimp only
    conv => whnf
    repeat (first | ((with_reducible refine NEXTK.normal ?_); conv => whnf) | ((with_reducible refine NEXTK.exit ?_); conv => whnf) | ((with_reducible refine NEXTK.ret ?_); conv => whnf) | ((with_reducible refine SEQ.plain ?_); conv => whnf) | ((with_reducible refine AR.ok ?_ ?_); exact ⟨by omega, by omega⟩; conv => whnf))
    refine BIF.dec (fun hlt => ?_) (fun hlt => ?_)
    · obtain ⟨x, hx⟩ : ∃ x, j.fTiles[k]? = some x := ⟨j.fTiles[k]'(by omega), by simp⟩
      have hxb := hv3 x (List.mem_of_getElem? hx)
      have ht := tilesS_take (stateS j.fState) hx
      have hts := tileS_size hxb
      have s1 := numS_size (n := x) (by omega) (by omega)
      have hlt' : k < j.fTiles.length := by omega
      repeat (any_goals (
        conv => whnf
        first
        | ((with_reducible refine OBL.mk ?_ (fun _ => ?_)); exact ⟨by first | omega | (dsimp only; omega), by first | omega | (dsimp only; omega), his⟩)
        | ((with_reducible refine ELD.at (k) hr ?_ ?_ ?_ (fun x' hx' => ?_)); exact mAddr_Non _; (first | rfl | omega); exact hlt'; obtain rfl : x = x' := by (rw [hx] at hx'; exact Option.some.inj hx'))
        | ((with_reducible refine BIF.beq ?_ ?_) <;> intro hx0)
        | ((with_reducible refine callX (g := 14) ?_ ?_); kernel_rfl; intro hX; refine ⟨_, text_c _ _ (by unfold I64; omega) (TabIs.e0 ht0 hX), ?_⟩; intro w4 e4; have z4 := cutLe e4)
        | ((with_reducible refine OBL.mk ?_ (fun _ => ?_)); (focus (simp only [ByteArray.size_append, szA1, szA2, szA3, szA4, szA8, szA9, szE]; omega)))
        | ((with_reducible refine BIF.dec ?_ ?_) <;> intro _)
        | ((with_reducible refine BIF.s ?_ ?_) <;> intro _)
        | (with_reducible refine NEXTK.normal ?_)
        | (with_reducible refine NEXTK.ret ?_)
        | (with_reducible refine NEXTK.exit ?_)
        | (with_reducible refine SEQ.plain ?_)
        | (with_reducible refine hK _ _ ?_)
        | ((with_reducible refine RUNL.agg (fun _ => ?_) ?_); (focus kernel_rfl))
        | (with_reducible refine RUNL.run ?_)
        | ((with_reducible refine AR.ok ?_ ?_); exact ⟨by first | omega | (dsimp only; omega), by first | omega | (dsimp only; omega)⟩)
        | (with_reducible refine AR.wr ?_)
        | ((with_reducible intro w3 e3); try have z3 := cutLe e3)
        | ((with_reducible intro h3); have h4 := Nat.le_of_lt h3; clear h4)))
      all_goals
        refine ⟨(k + 1, _), rfl, ⟨rfl, rfl, trivial⟩, rfl, rfl, ⟨by omega, ?_, ?_⟩, by omega⟩
      · rw [ht, ← hs]; simp only [tileS, if_pos hx0]
      · simp only [ByteArray.size_append, szA1, szA2]; omega
      · rw [ht, ← hs]; simp only [tileS, if_neg hx0]
      · simp only [ByteArray.size_append, szA1, szA2]; omega
    · have hkn : k = j.fTiles.length := by omega
      repeat (any_goals (
        conv => whnf
        first
        | ((with_reducible refine BIF.dec ?_ ?_) <;> intro _)
        | ((with_reducible refine BIF.s ?_ ?_) <;> intro _)
        | (with_reducible refine NEXTK.normal ?_)
        | (with_reducible refine NEXTK.ret ?_)
        | (with_reducible refine NEXTK.exit ?_)
        | (with_reducible refine SEQ.plain ?_)
        | (with_reducible refine hK _ _ ?_)
        | ((with_reducible refine RUNL.agg (fun _ => ?_) ?_); (focus kernel_rfl))
        | (with_reducible refine RUNL.run ?_)
        | ((with_reducible refine AR.ok ?_ ?_); exact ⟨by first | omega | (dsimp only; omega), by first | omega | (dsimp only; omega)⟩)
        | (with_reducible refine AR.wr ?_)
        | ((with_reducible intro w3 e3); try have z3 := cutLe e3)
        | ((with_reducible intro h3); have h4 := Nat.le_of_lt h3; clear h4)))
      intro hw
      refine ⟨?_, hw⟩
      rw [hs, hkn, List.take_length]
      simp only [jobP, hg, if_true]
      rfl

end Go.Proofs.YtlnihghpfikieaaDoor

/- The first two alike entries made one. -/
import Derived.Test.YtpddilkonkkppaaGreatDoorRows
import Derived.Test.YtpddilkonkkppaaGreatDoorSAt
namespace Go.Proofs.YtpddilkonkkppaaGreatDoor
open Go Go.X Go.Proofs Go.ChangeShapes Go.WideShapes Go.ChangeAt Go.RowKit
open Go.ChangeMaps (open_string shut_string)
set_option maxHeartbeats 1000000
set_option maxRecDepth 20000
set_option linter.unusedVariables false
set_option linter.unusedSimpArgs false
theorem areE_bnd {ts : List Tri} (hA : areE (ts.map (·.1)) = true) : ts.length ≤ 12 ∧ (∀ t ∈ ts, t.1.fSeen.length ≤ 1000) ∧ (∀ t ∈ ts, 0 ≤ t.1.fCount ∧ t.1.fCount ≤ 1000000) ∧ ∀ t ∈ ts, 0 ≤ t.1.fYear ∧ t.1.fYear ≤ 9223372036854775807 := by
  have h12 := areE_len hA
  rw [List.length_map] at h12
  have hf : ∀ t ∈ ts, okE t.1 = true := fun t ht => by
    obtain ⟨k, hk⟩ := List.getElem?_of_mem ht
    exact (areE_at hA (fst_at hk)).1
  refine ⟨h12, fun t ht => ?_, fun t ht => ?_, fun t ht => ?_⟩
  · have := (okE_facts (hf t ht)).1; omega
  · have := (okE_facts (hf t ht)).2.2.2.1; omega
  · have := (okE_facts (hf t ht)).2.2.2.2.1; omega
theorem okPair_at {es : List Ent} {i k : Nat} {x y : Ent} (hik : i < k) (hx : es[i]? = some x) (hy : es[k]? = some y) : okPair es i k = (alikeB x y && areE (mergeP es i k)) := by
  unfold okPair
  rw [alikeAt_get hx hy, decide_eq_true hik, Bool.true_and]
theorem mergeFirst_c (a : Option Addr) (n c : Nat) (ts : List Tri) (w : World) (hr : Row w a 6 (ts.map encT)) (hs : SeenAt w ts) (hn : ts.length = n) (hA : areE (ts.map (·.1)) = true) :
    Calls Tryz.prog 54 #[.slice a n c] w fun e w' => ∃ v, e = .returned v ∧ E0 w w' ∧ ∃ s us, v = .tuple #[s, .bool (onceP (ts.map (·.1))).isSome] ∧ us.map (·.1) = nextP (ts.map (·.1)) ∧ (onceP (ts.map (·.1)) = none → s = .slice a n c ∧ us = ts) ∧ ((onceP (ts.map (·.1))).isSome = true → OwnT w' w.heap.size s us) := by
  refine enterK Non 42 Tryz.func54 rfl rfl rfl fun K hK => ?_
  obtain ⟨h12, hz, hc, hy0⟩ := areE_bnd hA
  obtain ⟨es, hes⟩ : ∃ es, es = ts.map (·.1) := ⟨_, rfl⟩
  have hel : es.length = n := by rw [hes, List.length_map]; exact hn
  rw [← hes] at hA
  repeat (any_goals (
    conv => whnf
    first
    | ((with_reducible refine BIF.dec ?_ ?_) <;> intro _)
    | ((with_reducible refine BIF.s ?_ ?_) <;> intro _)
    | (with_reducible refine NEXTK.normal ?_)
    | (with_reducible refine NEXTK.ret ?_)
    | (with_reducible refine NEXTK.exit ?_)
    | (with_reducible refine SEQ.plain ?_)
    | (with_reducible refine hK _ _ ?_)
    | ((with_reducible refine RUNL.agg (fun _ => ?_) ?_); (focus kernel_rfl))
    | (with_reducible refine RUNL.run ?_)
    | ((with_reducible refine AR.ok ?_ ?_); exact ⟨by first | omega | (dsimp only; omega), by first | omega | (dsimp only; omega)⟩)
    | (with_reducible refine AR.wr ?_)
    | ((with_reducible intro w3 e3); try have z3 := cutLe e3)
    | ((with_reducible intro h3); have h4 := Nat.le_of_lt h3; clear h4)))
  conv => whnf
  refine LOOP.mk Nat (fun i => [(10, .v (.int .i64 i))]) (fun i _ => i ≤ n ∧ ∀ j, j < i → rowP es j = none) (fun i => n - i) 0 rfl ⟨rfl, trivial⟩ ⟨Nat.zero_le _, fun j hj => by omega⟩ ?_
  rintro i wr hX0 ⟨hi, hno⟩
  have hlw : w.heap.size ≤ wr.heap.size := cutLe hX0
  conv => whnf
  repeat (first | ((with_reducible refine NEXTK.normal ?_); conv => whnf) | ((with_reducible refine NEXTK.exit ?_); conv => whnf) | ((with_reducible refine NEXTK.ret ?_); conv => whnf) | ((with_reducible refine SEQ.plain ?_); conv => whnf) | ((with_reducible refine AR.ok ?_ ?_); exact ⟨by omega, by omega⟩; conv => whnf))
  refine BIF.dec (fun hlt => ?_) (fun hlt => ?_)
  · have hlt1 : i < ts.length := by omega
    have his := hr.isSome (by simp; omega)
    obtain ⟨x, hx⟩ : ∃ x, ts[i]? = some x := ⟨ts[i], by simp⟩
    have hmx := List.mem_of_getElem? hx
    have hxe : es[i]? = some x.1 := by rw [hes]; exact fst_at hx
    repeat (any_goals (
      conv => whnf
      first
      | ((with_reducible refine BIF.dec ?_ ?_) <;> intro _)
      | ((with_reducible refine BIF.s ?_ ?_) <;> intro _)
      | (with_reducible refine NEXTK.normal ?_)
      | (with_reducible refine NEXTK.ret ?_)
      | (with_reducible refine NEXTK.exit ?_)
      | (with_reducible refine SEQ.plain ?_)
      | (with_reducible refine hK _ _ ?_)
      | ((with_reducible refine RUNL.agg (fun _ => ?_) ?_); (focus kernel_rfl))
      | (with_reducible refine RUNL.run ?_)
      | ((with_reducible refine AR.ok ?_ ?_); exact ⟨by first | omega | (dsimp only; omega), by first | omega | (dsimp only; omega)⟩)
      | (with_reducible refine AR.wr ?_)
      | ((with_reducible intro w3 e3); try have z3 := cutLe e3)
      | ((with_reducible intro h3); have h4 := Nat.le_of_lt h3; clear h4)))
    conv => whnf
    refine LOOP.mk Nat (fun k => [(5, .v (.int .i64 k))]) (fun k _ => i < k ∧ k ≤ n ∧ ∀ j, i < j → j < k → okPair es i j = false) (fun k => n - k) (i + 1) rfl ⟨?_, trivial⟩ ⟨by omega, by omega, fun j h1 h2 => by omega⟩ ?_
    · simp [lk, Nat.beq]
    rintro k ws hX1 ⟨hik, hk, hnk⟩
    have hlv : w.heap.size ≤ ws.heap.size := cutLe hX1
    conv => whnf
    repeat (first | ((with_reducible refine NEXTK.normal ?_); conv => whnf) | ((with_reducible refine NEXTK.exit ?_); conv => whnf) | ((with_reducible refine NEXTK.ret ?_); conv => whnf) | ((with_reducible refine SEQ.plain ?_); conv => whnf) | ((with_reducible refine AR.ok ?_ ?_); exact ⟨by omega, by omega⟩; conv => whnf))
    refine BIF.dec (fun hlt2 => ?_) (fun hlt2 => ?_)
    · have hltk : k < ts.length := by omega
      obtain ⟨y, hy⟩ : ∃ y, ts[k]? = some y := ⟨ts[k], by simp⟩
      have hye : es[k]? = some y.1 := by rw [hes]; exact fst_at hy
      have hok := okPair_at hik hxe hye
      repeat (any_goals (
        conv => whnf
        first
        | ((with_reducible refine BIF.dec ?_ ?_) <;> intro _)
        | ((with_reducible refine BIF.s ?_ ?_) <;> intro _)
        | (with_reducible refine NEXTK.normal ?_)
        | (with_reducible refine NEXTK.ret ?_)
        | (with_reducible refine NEXTK.exit ?_)
        | (with_reducible refine SEQ.plain ?_)
        | (with_reducible refine hK _ _ ?_)
        | ((with_reducible refine RUNL.agg (fun _ => ?_) ?_); (focus kernel_rfl))
        | (with_reducible refine RUNL.run ?_)
        | ((with_reducible refine AR.ok ?_ ?_); exact ⟨by first | omega | (dsimp only; omega), by first | omega | (dsimp only; omega)⟩)
        | (with_reducible refine AR.wr ?_)
        | ((with_reducible intro w3 e3); try have z3 := cutLe e3)
        | ((with_reducible intro h3); have h4 := Nat.le_of_lt h3; clear h4)))
      refine DRAW.quietE (by kernel_rfl) (by kernel_rfl) ?_
      repeat (any_goals (
        conv => whnf
        first
        | ((with_reducible refine OBL.mk ?_ (fun _ => ?_)); exact ⟨by first | omega | (dsimp only; omega), by first | omega | (dsimp only; omega), his⟩)
        | ((with_reducible refine ELD.at (i) hr ?_ ?_ ?_ (fun x' hx' => ?_)); exact mAddr_Non _; (first | rfl | omega); exact hlt1; obtain rfl : x = x' := by (rw [hx] at hx'; exact Option.some.inj hx'))
        | ((with_reducible refine ELD.at (k) hr ?_ ?_ ?_ (fun x' hx' => ?_)); exact mAddr_Non _; (first | rfl | omega); exact hltk; obtain rfl : y = x' := by (rw [hy] at hx'; exact Option.some.inj hx'))
        | ((with_reducible refine callQ (g := 59) ?_ ?_); kernel_rfl; refine ⟨_, fun w' _ => alike_c x y w', ?_⟩)
        | ((with_reducible refine BIF.not ?_))
        | ((with_reducible refine BIF.s (fun (hal : alikeB x.1 y.1 = true) => ?_) (fun (hal : alikeB x.1 y.1 = false) => ?_)))
        | ((with_reducible refine callY (g := 37) ?_ ?_); kernel_rfl; refine ⟨_, fun hX => mergeAt_c a n c i k ts _ (hr.ext hX (mAddr_Non _)) (fun t ht => (hs t ht).ext hX (mAddr_Non _)) hn (by omega) (by omega) (by omega) hz hc, ?_⟩; intro r5 w5 e5 h5; have z5 := cutLe e5; obtain ⟨s, us, rfl, hus, hO⟩ := h5; rw [← hes] at hus; obtain ⟨b5, d5, rfl, q5, s5, p5⟩ := hO.rowx)
        | ((with_reducible refine BIF.s (fun (hgo : areE (mergeP (ts.map (·.1)) i k) = true) => ?_) (fun (hgo : areE (mergeP (ts.map (·.1)) i k) = false) => ?_)))
        | ((with_reducible refine BIF.dec ?_ ?_) <;> intro _)
        | ((with_reducible refine BIF.s ?_ ?_) <;> intro _)
        | (with_reducible refine NEXTK.normal ?_)
        | (with_reducible refine NEXTK.ret ?_)
        | (with_reducible refine NEXTK.exit ?_)
        | (with_reducible refine SEQ.plain ?_)
        | (with_reducible refine hK _ _ ?_)
        | ((with_reducible refine RUNL.agg (fun _ => ?_) ?_); (focus kernel_rfl))
        | (with_reducible refine RUNL.run ?_)
        | ((with_reducible refine AR.ok ?_ ?_); exact ⟨by first | omega | (dsimp only; omega), by first | omega | (dsimp only; omega)⟩)
        | (with_reducible refine AR.wr ?_)
        | ((with_reducible intro w3 e3); try have z3 := cutLe e3)
        | ((with_reducible intro h3); have h4 := Nat.le_of_lt h3; clear h4)))
      · intro hx'
        rw [← hes] at hgo
        have hsome : onceP es = some (mergeP es i k) := onceP_hit (by omega) (by omega) (by rw [hok, hal, hgo]; rfl) hno hnk
        rw [← hes, nextP, hsome]
        refine ⟨_, rfl, hx', .slice b5 us.length d5, us, ?_, hus, ⟨fun h => (by cases h), fun _ => hO.lo (by omega)⟩⟩
        simp [resV]
      all_goals
        refine ⟨k + 1, rfl, ⟨rfl, trivial⟩, rfl, rfl, ⟨by omega, by omega, fun j h1 h2 => ?_⟩, by omega⟩
        rcases Nat.lt_or_ge j k with h | h
        · exact hnk j h1 h
        · obtain rfl : j = k := by omega
          rw [hok, hal]
          first
          | rfl
          | (rw [← hes] at hgo; rw [hgo]; rfl)
    · have hke : k = n := by omega
      repeat (any_goals (
        conv => whnf
        first
        | ((with_reducible refine BIF.dec ?_ ?_) <;> intro _)
        | ((with_reducible refine BIF.s ?_ ?_) <;> intro _)
        | (with_reducible refine NEXTK.normal ?_)
        | (with_reducible refine NEXTK.ret ?_)
        | (with_reducible refine NEXTK.exit ?_)
        | (with_reducible refine SEQ.plain ?_)
        | (with_reducible refine hK _ _ ?_)
        | ((with_reducible refine RUNL.agg (fun _ => ?_) ?_); (focus kernel_rfl))
        | (with_reducible refine RUNL.run ?_)
        | ((with_reducible refine AR.ok ?_ ?_); exact ⟨by first | omega | (dsimp only; omega), by first | omega | (dsimp only; omega)⟩)
        | (with_reducible refine AR.wr ?_)
        | ((with_reducible intro w3 e3); try have z3 := cutLe e3)
        | ((with_reducible intro h3); have h4 := Nat.le_of_lt h3; clear h4)))
      refine ⟨i + 1, rfl, ⟨rfl, trivial⟩, rfl, rfl, ⟨by omega, fun j hj => ?_⟩, by omega⟩
      rcases Nat.lt_or_ge j i with h | h
      · exact hno j h
      · obtain rfl : j = i := by omega
        exact rowP_none (fun q h1 h2 => hnk q h1 (by omega))
  · repeat (any_goals (
      conv => whnf
      first
      | ((with_reducible refine BIF.dec ?_ ?_) <;> intro _)
      | ((with_reducible refine BIF.s ?_ ?_) <;> intro _)
      | (with_reducible refine NEXTK.normal ?_)
      | (with_reducible refine NEXTK.ret ?_)
      | (with_reducible refine NEXTK.exit ?_)
      | (with_reducible refine SEQ.plain ?_)
      | (with_reducible refine hK _ _ ?_)
      | ((with_reducible refine RUNL.agg (fun _ => ?_) ?_); (focus kernel_rfl))
      | (with_reducible refine RUNL.run ?_)
      | ((with_reducible refine AR.ok ?_ ?_); exact ⟨by first | omega | (dsimp only; omega), by first | omega | (dsimp only; omega)⟩)
      | (with_reducible refine AR.wr ?_)
      | ((with_reducible intro w3 e3); try have z3 := cutLe e3)
      | ((with_reducible intro h3); have h4 := Nat.le_of_lt h3; clear h4)))
    intro hx'
    have hnone : onceP es = none := onceP_none (fun j hj => hno j (by omega))
    rw [← hes, nextP, hnone]
    exact ⟨_, rfl, hx', _, ts, rfl, hes.symm, fun _ => ⟨rfl, rfl⟩, fun h => (by cases h)⟩
theorem l25Once_c (a : Option Addr) (n c : Nat) (ts : List Tri) (w : World) (hr : Row w a 6 (ts.map encT)) (hs : SeenAt w ts) (hn : ts.length = n) (hg : sizT ts) (hA : areE (ts.map (·.1)) = true) :
    Calls Tryz.prog 56 #[.slice a n c] w fun e w' => ∃ v, e = .returned v ∧ E0 w w' ∧ ∃ s us, v = .tuple #[s, .bool (onceP (ts.map (·.1))).isSome] ∧ us.map (·.1) = nextP (ts.map (·.1)) ∧ (onceP (ts.map (·.1)) = none → s = .slice a n c ∧ us = ts) ∧ ((onceP (ts.map (·.1))).isSome = true → OwnT w' w.heap.size s us) := by
  refine enterK Non 43 Tryz.func56 rfl rfl rfl fun K hK => ?_
  obtain ⟨h12, hz, hc, hy0⟩ := areE_bnd hA
  obtain ⟨es, hes⟩ : ∃ es, es = ts.map (·.1) := ⟨_, rfl⟩
  have hel : es.length = n := by rw [hes, List.length_map]; exact hn
  rw [← hes] at hA
  repeat (any_goals (
    conv => whnf
    first
    | ((with_reducible refine BIF.dec ?_ ?_) <;> intro _)
    | ((with_reducible refine BIF.s ?_ ?_) <;> intro _)
    | (with_reducible refine NEXTK.normal ?_)
    | (with_reducible refine NEXTK.ret ?_)
    | (with_reducible refine NEXTK.exit ?_)
    | (with_reducible refine SEQ.plain ?_)
    | (with_reducible refine hK _ _ ?_)
    | ((with_reducible refine RUNL.agg (fun _ => ?_) ?_); (focus kernel_rfl))
    | (with_reducible refine RUNL.run ?_)
    | ((with_reducible refine AR.ok ?_ ?_); exact ⟨by first | omega | (dsimp only; omega), by first | omega | (dsimp only; omega)⟩)
    | (with_reducible refine AR.wr ?_)
    | ((with_reducible intro w3 e3); try have z3 := cutLe e3)
    | ((with_reducible intro h3); have h4 := Nat.le_of_lt h3; clear h4)))
  conv => whnf
  refine LOOP.mk Nat (fun i => [(4, .v (.int .i64 i))]) (fun i _ => i ≤ n ∧ ∀ j, j < i → rowP es j = none) (fun i => n - i) 0 rfl ⟨rfl, trivial⟩ ⟨Nat.zero_le _, fun j hj => by omega⟩ ?_
  rintro i wr hX0 ⟨hi, hno⟩
  have hlw : w.heap.size ≤ wr.heap.size := cutLe hX0
  conv => whnf
  repeat (first | ((with_reducible refine NEXTK.normal ?_); conv => whnf) | ((with_reducible refine NEXTK.exit ?_); conv => whnf) | ((with_reducible refine NEXTK.ret ?_); conv => whnf) | ((with_reducible refine SEQ.plain ?_); conv => whnf) | ((with_reducible refine AR.ok ?_ ?_); exact ⟨by omega, by omega⟩; conv => whnf))
  refine BIF.dec (fun hlt => ?_) (fun hlt => ?_)
  · have hlt1 : i < ts.length := by omega
    have his := hr.isSome (by simp; omega)
    obtain ⟨x, hx⟩ : ∃ x, ts[i]? = some x := ⟨ts[i], by simp⟩
    have hmx := List.mem_of_getElem? hx
    have hxe : es[i]? = some x.1 := by rw [hes]; exact fst_at hx
    repeat (any_goals (
      conv => whnf
      first
      | ((with_reducible refine BIF.dec ?_ ?_) <;> intro _)
      | ((with_reducible refine BIF.s ?_ ?_) <;> intro _)
      | (with_reducible refine NEXTK.normal ?_)
      | (with_reducible refine NEXTK.ret ?_)
      | (with_reducible refine NEXTK.exit ?_)
      | (with_reducible refine SEQ.plain ?_)
      | (with_reducible refine hK _ _ ?_)
      | ((with_reducible refine RUNL.agg (fun _ => ?_) ?_); (focus kernel_rfl))
      | (with_reducible refine RUNL.run ?_)
      | ((with_reducible refine AR.ok ?_ ?_); exact ⟨by first | omega | (dsimp only; omega), by first | omega | (dsimp only; omega)⟩)
      | (with_reducible refine AR.wr ?_)
      | ((with_reducible intro w3 e3); try have z3 := cutLe e3)
      | ((with_reducible intro h3); have h4 := Nat.le_of_lt h3; clear h4)))
    conv => whnf
    refine LOOP.mk Nat (fun k => [(5, .v (.int .i64 k))]) (fun k _ => i < k ∧ k ≤ n ∧ ∀ j, i < j → j < k → okPair es i j = false) (fun k => n - k) (i + 1) rfl ⟨?_, trivial⟩ ⟨by omega, by omega, fun j h1 h2 => by omega⟩ ?_
    · simp [lk, Nat.beq]
    rintro k ws hX1 ⟨hik, hk, hnk⟩
    have hlv : w.heap.size ≤ ws.heap.size := cutLe hX1
    conv => whnf
    repeat (first | ((with_reducible refine NEXTK.normal ?_); conv => whnf) | ((with_reducible refine NEXTK.exit ?_); conv => whnf) | ((with_reducible refine NEXTK.ret ?_); conv => whnf) | ((with_reducible refine SEQ.plain ?_); conv => whnf) | ((with_reducible refine AR.ok ?_ ?_); exact ⟨by omega, by omega⟩; conv => whnf))
    refine BIF.dec (fun hlt2 => ?_) (fun hlt2 => ?_)
    · have hltk : k < ts.length := by omega
      obtain ⟨y, hy⟩ : ∃ y, ts[k]? = some y := ⟨ts[k], by simp⟩
      have hmy := List.mem_of_getElem? hy
      have hye : es[k]? = some y.1 := by rw [hes]; exact fst_at hy
      have hok := okPair_at hik hxe hye
      have hcl := clashP_alike x.1 y.1
      obtain ⟨hup, hnd⟩ := areE_nodup hA hxe hye (by omega)
      repeat (any_goals (
        conv => whnf
        first
        | ((with_reducible refine BIF.dec ?_ ?_) <;> intro _)
        | ((with_reducible refine BIF.s ?_ ?_) <;> intro _)
        | (with_reducible refine NEXTK.normal ?_)
        | (with_reducible refine NEXTK.ret ?_)
        | (with_reducible refine NEXTK.exit ?_)
        | (with_reducible refine SEQ.plain ?_)
        | (with_reducible refine hK _ _ ?_)
        | ((with_reducible refine RUNL.agg (fun _ => ?_) ?_); (focus kernel_rfl))
        | (with_reducible refine RUNL.run ?_)
        | ((with_reducible refine AR.ok ?_ ?_); exact ⟨by first | omega | (dsimp only; omega), by first | omega | (dsimp only; omega)⟩)
        | (with_reducible refine AR.wr ?_)
        | ((with_reducible intro w3 e3); try have z3 := cutLe e3)
        | ((with_reducible intro h3); have h4 := Nat.le_of_lt h3; clear h4)))
      conv => whnf
      (with_reducible refine DRAW.held (id := 7) (Non) [0, 1, 2, 3, 4, 5, 6, 7] (.start (.alt 8 (.one 9 (.one 10 .done)) .stop)) ?_ ?_ ?_ ?_); kernel_rfl; kernel_rfl; kernel_rfl
      intro w3 e3 hE
      have z3 := cutLe e3
      repeat (any_goals (
        conv => whnf
        first
        | ((with_reducible intro w3 e3); have z3 := cutLe e3; replace hE := hE.trans' e3 (fun k hk h => by first | exact False.elim h | exact h | (exfalso; simp only [bk] at h; omega) | (simp only [bk] at h; omega)))
        | ((with_reducible refine And.intro ?_ ?_); (focus (first | exact mAddr_Non _ | (intro h; first | exact h | (simp only [bk] at h; omega)))))
        | (with_reducible refine And.intro hE ?_)
        | ((with_reducible refine OBL.mk ?_ (fun _ => ?_)); exact ⟨by first | omega | (dsimp only; omega), by first | omega | (dsimp only; omega), his⟩)
        | ((with_reducible refine ELD.at (i) hr ?_ ?_ ?_ (fun x' hx' => ?_)); exact mAddr_Non _; (first | rfl | omega); exact hlt1; obtain rfl : x = x' := by (rw [hx] at hx'; exact Option.some.inj hx'))
        | ((with_reducible refine ELD.at (k) hr ?_ ?_ ?_ (fun x' hx' => ?_)); exact mAddr_Non _; (first | rfl | omega); exact hltk; obtain rfl : y = x' := by (rw [hy] at hx'; exact Option.some.inj hx'))
        | ((with_reducible refine callY (g := 34) ?_ ?_); kernel_rfl; refine ⟨_, fun hX => l25Clashes_c x y _ (hy0 x hmx) (hy0 y hmy), ?_⟩; intro r5 w5 e5 oC; have z5 := cutLe e5; replace hE := hE.trans (Ext.of0 e5); obtain ⟨b5, d5, rfl, q5, p5⟩ := oC.rowx)
        | ((with_reducible refine BIF.dec (fun (hal : (0 : Int) < (clashP x.1 y.1).length) => ?_) (fun hal => ?_)))
        | ((with_reducible refine callY (g := 33) ?_ ?_); kernel_rfl; refine ⟨_, fun hX => l25Merged_c a n c i k ts x y _ (hr.ext hX (mAddr_Non _)) (fun t ht => (hs t ht).ext hX (mAddr_Non _)) hn (by omega) hx hy hz hg hc hup hnd, ?_⟩; intro r5 w5 e5 h5; have z5 := cutLe e5; obtain ⟨s, us, rfl, hus, hO⟩ := h5; rw [← hes] at hus; obtain ⟨b5, d5, rfl, q5, s5, p5⟩ := hO.rowx)
        | ((with_reducible refine BIF.s (fun (hgo : areE (mergeP (ts.map (·.1)) i k) = true) => ?_) (fun (hgo : areE (mergeP (ts.map (·.1)) i k) = false) => ?_)))
        | (with_reducible refine And.intro ?_ ?_)
        | (exact True.intro)
        | ((with_reducible refine BIF.dec ?_ ?_) <;> intro _)
        | ((with_reducible refine BIF.s ?_ ?_) <;> intro _)
        | (with_reducible refine NEXTK.normal ?_)
        | (with_reducible refine NEXTK.ret ?_)
        | (with_reducible refine NEXTK.exit ?_)
        | (with_reducible refine SEQ.plain ?_)
        | (with_reducible refine hK _ _ ?_)
        | ((with_reducible refine RUNL.agg (fun _ => ?_) ?_); (focus kernel_rfl))
        | (with_reducible refine RUNL.run ?_)
        | ((with_reducible refine AR.ok ?_ ?_); exact ⟨by first | omega | (dsimp only; omega), by first | omega | (dsimp only; omega)⟩)
        | (with_reducible refine AR.wr ?_)
        | ((with_reducible intro w3 e3); try have z3 := cutLe e3)
        | ((with_reducible intro h3); have h4 := Nat.le_of_lt h3; clear h4)))
      · refine ⟨k + 1, rfl, ⟨rfl, trivial⟩, rfl, rfl, ⟨by omega, by omega, fun j h1 h2 => ?_⟩, by omega⟩
        rcases Nat.lt_or_ge j k with h | h
        · exact hnk j h1 h
        · obtain rfl : j = k := by omega
          have hal' : alikeB x.1 y.1 = false := by
            cases hb : alikeB x.1 y.1 with
            | false => rfl
            | true => have := hcl.2 hb; omega
          rw [hok, hal']; rfl
      · intro hx'
        rw [← hes] at hgo
        have hal' : alikeB x.1 y.1 = true := hcl.1 (by omega)
        have hsome : onceP es = some (mergeP es i k) := onceP_hit (by omega) (by omega) (by rw [hok, hal', hgo]; rfl) hno hnk
        rw [← hes, nextP, hsome]
        refine ⟨_, rfl, hx', .slice b5 us.length d5, us, ?_, hus, ⟨fun h => (by cases h), fun _ => hO.lo (by omega)⟩⟩
        simp [resV]
      · refine ⟨k + 1, rfl, ⟨rfl, trivial⟩, rfl, rfl, ⟨by omega, by omega, fun j h1 h2 => ?_⟩, by omega⟩
        rcases Nat.lt_or_ge j k with h | h
        · exact hnk j h1 h
        · obtain rfl : j = k := by omega
          rw [← hes] at hgo
          rw [hok, hgo, Bool.and_false]
    · have hke : k = n := by omega
      repeat (any_goals (
        conv => whnf
        first
        | ((with_reducible refine BIF.dec ?_ ?_) <;> intro _)
        | ((with_reducible refine BIF.s ?_ ?_) <;> intro _)
        | (with_reducible refine NEXTK.normal ?_)
        | (with_reducible refine NEXTK.ret ?_)
        | (with_reducible refine NEXTK.exit ?_)
        | (with_reducible refine SEQ.plain ?_)
        | (with_reducible refine hK _ _ ?_)
        | ((with_reducible refine RUNL.agg (fun _ => ?_) ?_); (focus kernel_rfl))
        | (with_reducible refine RUNL.run ?_)
        | ((with_reducible refine AR.ok ?_ ?_); exact ⟨by first | omega | (dsimp only; omega), by first | omega | (dsimp only; omega)⟩)
        | (with_reducible refine AR.wr ?_)
        | ((with_reducible intro w3 e3); try have z3 := cutLe e3)
        | ((with_reducible intro h3); have h4 := Nat.le_of_lt h3; clear h4)))
      refine ⟨i + 1, rfl, ⟨rfl, trivial⟩, rfl, rfl, ⟨by omega, fun j hj => ?_⟩, by omega⟩
      rcases Nat.lt_or_ge j i with h | h
      · exact hno j h
      · obtain rfl : j = i := by omega
        exact rowP_none (fun q h1 h2 => hnk q h1 (by omega))
  · repeat (any_goals (
      conv => whnf
      first
      | ((with_reducible refine BIF.dec ?_ ?_) <;> intro _)
      | ((with_reducible refine BIF.s ?_ ?_) <;> intro _)
      | (with_reducible refine NEXTK.normal ?_)
      | (with_reducible refine NEXTK.ret ?_)
      | (with_reducible refine NEXTK.exit ?_)
      | (with_reducible refine SEQ.plain ?_)
      | (with_reducible refine hK _ _ ?_)
      | ((with_reducible refine RUNL.agg (fun _ => ?_) ?_); (focus kernel_rfl))
      | (with_reducible refine RUNL.run ?_)
      | ((with_reducible refine AR.ok ?_ ?_); exact ⟨by first | omega | (dsimp only; omega), by first | omega | (dsimp only; omega)⟩)
      | (with_reducible refine AR.wr ?_)
      | ((with_reducible intro w3 e3); try have z3 := cutLe e3)
      | ((with_reducible intro h3); have h4 := Nat.le_of_lt h3; clear h4)))
    intro hx'
    have hnone : onceP es = none := onceP_none (fun j hj => hno j (by omega))
    rw [← hes, nextP, hnone]
    exact ⟨_, rfl, hx', _, ts, rfl, hes.symm, fun _ => ⟨rfl, rfl⟩, fun h => (by cases h)⟩

end Go.Proofs.YtpddilkonkkppaaGreatDoor

/- The worst sheets. -/
import Derived.Test.YtgopcppegjhmiaaDoorRows
import Derived.Test.YtgopcppegjhmiaaDoorRep4
namespace Go.Proofs.YtgopcppegjhmiaaDoor
open Go Go.X Go.Proofs Go.ChangeShapes Go.WideShapes Go.ChangeAt Go.RowKit
open Go.ChangeMaps (open_string shut_string)
set_option maxHeartbeats 1000000
set_option maxRecDepth 20000
set_option linter.unusedVariables false
set_option linter.unusedSimpArgs false
def cmp3 (a b : Int) : Int := if a < b then -1 else if b < a then 1 else 0
theorem isNaN_c (a : Int) (w : World) : Calls Tryd.prog 62 #[.int .i64 a] w fun e w' => e = .returned (.bool false) ∧ E0 w w' := by
  refine enterK Non 6 Tryd.func62 rfl rfl rfl fun K hK => ?_
  repeat (any_goals (
    conv => whnf
    first
    | ((with_reducible refine BIF.dec ?_ ?_) <;> intro _)
    | ((with_reducible refine BIF.s ?_ ?_) <;> intro _)
    | (with_reducible refine NEXTK.normal ?_)
    | (with_reducible refine NEXTK.ret ?_)
    | (with_reducible refine NEXTK.exit ?_)
    | (with_reducible refine SEQ.plain ?_)
    | (with_reducible refine hK _ _ ?_)
    | ((with_reducible refine RUNL.agg (fun _ => ?_) ?_); (focus kernel_rfl))
    | (with_reducible refine RUNL.run ?_)
    | ((with_reducible refine AR.ok ?_ ?_); exact ⟨by first | omega | (dsimp only; omega), by first | omega | (dsimp only; omega)⟩)
    | (with_reducible refine AR.wr ?_)
    | ((with_reducible intro w3 e3); try have z3 := cutLe e3)
    | ((with_reducible intro h3); have h4 := Nat.le_of_lt h3; clear h4)))
  intro hx
  refine ⟨?_, hx⟩
  simp [resV]
theorem Compare_c (a b : Int) (w : World) : Calls Tryd.prog 38 #[.int .i64 a, .int .i64 b] w fun e w' => e = .returned (.int .i64 (cmp3 a b)) ∧ E0 w w' := by
  refine enterK Non 20 Tryd.func38 rfl rfl rfl fun K hK => ?_
  repeat (any_goals (
    conv => whnf
    first
    | ((with_reducible refine callF (g := 62) ?_ ?_); kernel_rfl; refine ⟨_, isNaN_c _ _, ?_⟩; intro w4 e4; have z4 := cutLe e4)
    | ((with_reducible refine BIF.s (fun h => absurd h ?_) (fun _ => ?_)); focus (first | (simp; done) | (simp; omega)))
    | ((with_reducible refine BIF.s (fun _ => ?_) (fun h => absurd h ?_)); rotate_left; focus (first | (simp; done) | (simp; omega)))
    | ((with_reducible refine BIF.dec ?_ ?_) <;> intro _)
    | ((with_reducible refine BIF.s ?_ ?_) <;> intro _)
    | (with_reducible refine NEXTK.normal ?_)
    | (with_reducible refine NEXTK.ret ?_)
    | (with_reducible refine NEXTK.exit ?_)
    | (with_reducible refine SEQ.plain ?_)
    | (with_reducible refine hK _ _ ?_)
    | ((with_reducible refine RUNL.agg (fun _ => ?_) ?_); (focus kernel_rfl))
    | (with_reducible refine RUNL.run ?_)
    | ((with_reducible refine AR.ok ?_ ?_); exact ⟨by first | omega | (dsimp only; omega), by first | omega | (dsimp only; omega)⟩)
    | (with_reducible refine AR.wr ?_)
    | ((with_reducible intro w3 e3); try have z3 := cutLe e3)
    | ((with_reducible intro h3); have h4 := Nat.le_of_lt h3; clear h4)))
  all_goals
    intro hx
    refine ⟨?_, hx⟩
    unfold cmp3
    clear hK
    first
    | (rw [if_pos (by assumption)]; rfl)
    | (rw [if_neg (by assumption), if_pos (by assumption)]; rfl)
    | (rw [if_neg (by assumption), if_neg (by assumption)]; rfl)
theorem insSortDmg_c (key : Dmg → Int) (lo : Nat) (a : Option Addr) (n c : Nat) (xs : List Dmg) (f : FuncId) (w : World) (ho : Own w lo 42 4 (.slice a n c) (xs.map encDmg)) (hn : xs.length = n) (hm : n ≤ 1048577) (hb : hasBody Tryd.prog f = true)
    (hf : ∀ x y : Dmg, ∀ w', Calls Tryd.prog f (#[].toList ++ [Value.agg (encDmg x).toArray, Value.agg (encDmg y).toArray] ++ #[].toList).toArray w' fun e w'' => e = .returned (.int .i64 (cmp3 (key x) (key y))) ∧ E0 w' w'') :
    Calls Tryd.prog 70 #[.slice a n c, .int .i64 0, .int .i64 n, .func (.func f) #[] #[]] w fun e w' => ∃ r, e = .returned r ∧ Ext (fun b => (Value.slice a n c).ownBlock = some b) w w' ∧ r = .tuple #[] ∧ Own w' lo 42 4 (.slice a n c) ((isort key xs).map encDmg) := by
  refine enterK (fun b => (Value.slice a n c).ownBlock = some b) 53 Tryd.func70 rfl rfl rfl fun K hK => ?_
  rcases Nat.eq_zero_or_pos n with h0 | h0
  · have hxs : xs = [] := List.eq_nil_of_length_eq_zero (by omega)
    subst hxs h0
    conv => whnf
    repeat (first | ((with_reducible refine NEXTK.normal ?_); conv => whnf) | ((with_reducible refine NEXTK.exit ?_); conv => whnf) | ((with_reducible refine NEXTK.ret ?_); conv => whnf) | ((with_reducible refine SEQ.plain ?_); conv => whnf) | ((with_reducible refine AR.ok ?_ ?_); exact ⟨by omega, by omega⟩; conv => whnf))
    refine LOOP.mk Nat (fun t => [(8, .v (.int .i64 1))]) (fun t wr => Own wr lo 42 4 (.slice a 0 c) (([] : List Dmg).map encDmg)) (fun t => 0) 0 rfl ⟨rfl, trivial⟩ ho ?_
    rintro t wr - hown
    repeat (any_goals (
      conv => whnf
      first
      | ((exfalso; omega))
      | ((with_reducible refine BIF.dec ?_ ?_) <;> intro _)
      | ((with_reducible refine BIF.s ?_ ?_) <;> intro _)
      | (with_reducible refine NEXTK.normal ?_)
      | (with_reducible refine NEXTK.ret ?_)
      | (with_reducible refine NEXTK.exit ?_)
      | (with_reducible refine SEQ.plain ?_)
      | (with_reducible refine hK _ _ ?_)
      | ((with_reducible refine RUNL.agg (fun _ => ?_) ?_); (focus kernel_rfl))
      | (with_reducible refine RUNL.run ?_)
      | ((with_reducible refine AR.ok ?_ ?_); exact ⟨by first | omega | (dsimp only; omega), by first | omega | (dsimp only; omega)⟩)
      | (with_reducible refine AR.wr ?_)
      | ((with_reducible intro w3 e3); try have z3 := cutLe e3)
      | ((with_reducible intro h3); have h4 := Nat.le_of_lt h3; clear h4)))
    intro hx
    exact ⟨_, rfl, hx, rfl, hown⟩
  conv => whnf
  repeat (first | ((with_reducible refine NEXTK.normal ?_); conv => whnf) | ((with_reducible refine NEXTK.exit ?_); conv => whnf) | ((with_reducible refine NEXTK.ret ?_); conv => whnf) | ((with_reducible refine SEQ.plain ?_); conv => whnf) | ((with_reducible refine AR.ok ?_ ?_); exact ⟨by omega, by omega⟩; conv => whnf))
  refine LOOP.mk Nat (fun t => [(8, .v (.int .i64 ((t : Int) + 1)))]) (fun t wr => t + 1 ≤ n ∧ Own wr lo 42 4 (.slice a n c) ((isort key (xs.take (t + 1)) ++ xs.drop (t + 1)).map encDmg)) (fun t => n - t) 0 rfl ⟨rfl, trivial⟩ ⟨by omega, ?_⟩ ?_
  · have e : isort key (xs.take 1) ++ xs.drop 1 = xs := by
      match xs, hn with
      | x :: r, _ => simp [isort, insK]
      | [], h => simp at h; omega
    show Own _ lo 42 4 (.slice a n c) ((isort key (xs.take 1) ++ xs.drop 1).map encDmg)
    rw [e]; exact ho
  rintro t wr - ⟨ht, hown⟩
  obtain ⟨hsrt, hslen, -⟩ := isort_all key xs (t + 1) (by omega)
  conv => whnf
  repeat (first | ((with_reducible refine NEXTK.normal ?_); conv => whnf) | ((with_reducible refine NEXTK.exit ?_); conv => whnf) | ((with_reducible refine NEXTK.ret ?_); conv => whnf) | ((with_reducible refine SEQ.plain ?_); conv => whnf) | ((with_reducible refine AR.ok ?_ ?_); exact ⟨by omega, by omega⟩; conv => whnf))
  refine BIF.dec (fun hlt => ?_) (fun hlt => ?_)
  · have htl : t + 1 < xs.length := by omega
    obtain ⟨x, hx⟩ : ∃ x, xs[t + 1]? = some x := ⟨xs[t + 1]'(by omega), by simp⟩
    have hnext := isort_take key hx
    obtain ⟨s, hs⟩ : ∃ s, s = isort key (xs.take (t + 1)) := ⟨_, rfl⟩
    rw [← hs] at hown hsrt hslen hnext
    have hd0 : xs.drop (t + 1) = x :: xs.drop (t + 2) := by
      rw [List.drop_eq_getElem_cons (by omega)]
      congr 1
      exact (List.getElem?_eq_some_iff.1 hx).2
    repeat (any_goals (
      conv => whnf
      first
      | ((with_reducible refine BIF.dec ?_ ?_) <;> intro _)
      | ((with_reducible refine BIF.s ?_ ?_) <;> intro _)
      | (with_reducible refine NEXTK.normal ?_)
      | (with_reducible refine NEXTK.ret ?_)
      | (with_reducible refine NEXTK.exit ?_)
      | (with_reducible refine SEQ.plain ?_)
      | (with_reducible refine hK _ _ ?_)
      | ((with_reducible refine RUNL.agg (fun _ => ?_) ?_); (focus kernel_rfl))
      | (with_reducible refine RUNL.run ?_)
      | ((with_reducible refine AR.ok ?_ ?_); exact ⟨by first | omega | (dsimp only; omega), by first | omega | (dsimp only; omega)⟩)
      | (with_reducible refine AR.wr ?_)
      | ((with_reducible intro w3 e3); try have z3 := cutLe e3)
      | ((with_reducible intro h3); have h4 := Nat.le_of_lt h3; clear h4)))
    conv => whnf
    refine LOOP.mk Nat (fun d => [(9, .v (.int .i64 ((t : Int) + 1 - d)))]) (fun d ws => d ≤ t + 1 ∧ (∀ y ∈ s.drop (t + 1 - d), key x < key y) ∧ Own ws lo 42 4 (.slice a n c) ((s.take (t + 1 - d) ++ x :: s.drop (t + 1 - d) ++ xs.drop (t + 2)).map encDmg)) (fun d => t + 1 - d) 0 rfl ⟨by simp [lk, Nat.beq], trivial⟩ ⟨by omega, ?_, ?_⟩ ?_
    · intro y hy
      rw [List.drop_eq_nil_of_le (by omega)] at hy
      cases hy
    · rw [show t + 1 - 0 = s.length from by omega, List.take_length, List.drop_length]
      rw [hd0] at hown
      simpa using hown
    rintro d ws - ⟨hd, hgt, hown1⟩
    obtain ⟨q, hq⟩ : ∃ q, q = t + 1 - d := ⟨_, rfl⟩
    rw [← hq] at hgt hown1
    have hqi : ((t : Int) + 1 - d) = q := by omega
    obtain ⟨ls, hls⟩ : ∃ ls, ls = s.take q ++ x :: s.drop q ++ xs.drop (t + 2) := ⟨_, rfl⟩
    rw [← hls] at hown1
    have hlen := hown1.row.2
    rw [List.length_map] at hlen
    have his := hown1.row.1.isSome (by simp; omega)
    have hxq : ls[q]? = some x := by
      rw [hls, List.append_assoc, List.getElem?_append_right (by simp; omega)]
      have : q - (s.take q).length = 0 := by simp; omega
      rw [this]; rfl
    rcases Nat.eq_zero_or_pos q with hq0 | hq0
    · have hfin : insK key s x = s.take q ++ x :: s.drop q := insK_at key q (by omega) hsrt hgt (fun y h => by omega)
      repeat (any_goals (
        conv => whnf
        first
        | ((with_reducible refine DRAW.quietE (id := 4) ?_ ?_ ?_); kernel_rfl; kernel_rfl)
        | ((exfalso; omega))
        | ((with_reducible refine BIF.dec ?_ ?_) <;> intro _)
        | ((with_reducible refine BIF.s ?_ ?_) <;> intro _)
        | (with_reducible refine NEXTK.normal ?_)
        | (with_reducible refine NEXTK.ret ?_)
        | (with_reducible refine NEXTK.exit ?_)
        | (with_reducible refine SEQ.plain ?_)
        | (with_reducible refine hK _ _ ?_)
        | ((with_reducible refine RUNL.agg (fun _ => ?_) ?_); (focus kernel_rfl))
        | (with_reducible refine RUNL.run ?_)
        | ((with_reducible refine AR.ok ?_ ?_); exact ⟨by first | omega | (dsimp only; omega), by first | omega | (dsimp only; omega)⟩)
        | (with_reducible refine AR.wr ?_)
        | ((with_reducible intro w3 e3); try have z3 := cutLe e3)
        | ((with_reducible intro h3); have h4 := Nat.le_of_lt h3; clear h4)))
      refine ⟨t + 1, rfl, ⟨?_, trivial⟩, rfl, rfl, ⟨by omega, ?_⟩, by omega⟩
      · simp [lk, Nat.beq]
      · rw [hnext, hfin, ← hls]; exact hown1.e0 e3
    · obtain ⟨z, hz⟩ : ∃ z, s[q - 1]? = some z := ⟨s[q - 1]'(by omega), by simp⟩
      have hzq : ls[q - 1]? = some z := by
        rw [hls, List.append_assoc, List.getElem?_append_left (by simp; omega), List.getElem?_take, if_pos (by omega), hz]
      by_cases hxz : key x < key z
      · have hc3 : cmp3 (key x) (key z) < 0 := by unfold cmp3; rw [if_pos hxz]; omega
        repeat (any_goals (
          conv => whnf
          first
          | ((with_reducible refine DRAW.plan (id := 6) (.one 0 (.one 1 (.one 2 (.one 3 (.one 4 (.one 5 (.one 6 (.one 7 (.one 8 (.one 10 (.one 11 (.one 12 (.start (.alt 9 (.start (.alt 13 (.one 14 (.start (.alt 15 (.one 16 (.start (.alt 17 .done .stop))) .stop))) .stop)) (.alt 13 (.start (.alt 9 (.one 14 (.start (.alt 15 (.one 16 (.start (.alt 17 .done .stop))) .stop))) .stop)) .stop))))))))))))))) ?_ ?_ ?_ ?_); kernel_rfl; kernel_rfl; kernel_rfl)
          | ((with_reducible refine DRAW.quietE (id := 4) ?_ ?_ ?_); kernel_rfl; kernel_rfl)
          | ((exfalso; omega))
          | ((with_reducible refine OBL.mk ?_ (fun _ => ?_)); exact ⟨by omega, by omega, his⟩)
          | ((with_reducible refine ELD.atNow (enc := encDmg) (xs := ls) q hown1.row.1 ?_ ?_ (fun x' hx' => ?_)); omega; omega; obtain rfl : x = x' := by (rw [hxq] at hx'; exact Option.some.inj hx'))
          | ((with_reducible refine ELD.atNow (enc := encDmg) (xs := ls) (q - 1) hown1.row.1 ?_ ?_ (fun x' hx' => ?_)); omega; omega; obtain rfl : z = x' := by (rw [hzq] at hx'; exact Option.some.inj hx'))
          | ((with_reducible refine callQ (g := f) ?_ ?_); exact hb; refine ⟨_, fun w' _ => hf x z w', ?_⟩)
          | ((with_reducible intro w3 e3); have z3 := cutLe e3; replace hown1 := hown1.e0 e3)
          | ((with_reducible refine DRAW.plan (id := 6) (.one 0 (.one 1 (.one 2 (.one 3 (.one 4 (.one 5 (.one 6 (.one 7 (.one 8 (.one 10 (.one 11 (.one 12 (.start (.alt 9 (.start (.alt 13 (.one 14 (.start (.alt 15 (.one 16 (.start (.alt 17 .done .stop))) .stop))) .stop)) (.alt 13 (.start (.alt 9 (.one 14 (.start (.alt 15 (.one 16 (.start (.alt 17 .done .stop))) .stop))) .stop)) .stop))))))))))))))) ?_ ?_ ?_ ?_); kernel_rfl; kernel_rfl; kernel_rfl)
          | (with_reducible refine And.intro ?_ ?_)
          | (exact True.intro)
          | ((with_reducible refine BIF.dec ?_ ?_) <;> intro _)
          | ((with_reducible refine BIF.s ?_ ?_) <;> intro _)
          | (with_reducible refine NEXTK.normal ?_)
          | (with_reducible refine NEXTK.ret ?_)
          | (with_reducible refine NEXTK.exit ?_)
          | (with_reducible refine SEQ.plain ?_)
          | (with_reducible refine hK _ _ ?_)
          | ((with_reducible refine RUNL.agg (fun _ => ?_) ?_); (focus kernel_rfl))
          | (with_reducible refine RUNL.run ?_)
          | ((with_reducible refine AR.ok ?_ ?_); exact ⟨by first | omega | (dsimp only; omega), by first | omega | (dsimp only; omega)⟩)
          | (with_reducible refine AR.wr ?_)
          | ((with_reducible intro w3 e3); try have z3 := cutLe e3)
          | ((with_reducible intro h3); have h4 := Nat.le_of_lt h3; clear h4)))
        all_goals
          conv => whnf
          refine stM (i := _) hown1 rfl rfl rfl q hqi.symm (by rw [List.getElem?_map, hxq]; rfl) (by decide) (fun _ h => h) trivial (fun w6 e6 o6 => ?_)
          replace o6 : Own w6 lo 42 4 (.slice a n c) ((ls.set q z).map encDmg) := by rw [List.map_set]; exact o6
          have hzq2 : (ls.set q z)[q - 1]? = some z := by rw [List.getElem?_set_ne (by omega), hzq]
          repeat (any_goals (
            conv => whnf
            first
            | (with_reducible refine And.intro ?_ ?_)
            | (exact True.intro)
            | ((with_reducible refine OBL.mk ?_ (fun _ => ?_)); exact ⟨by omega, by omega, his⟩)
            | ((with_reducible refine BIF.dec ?_ ?_) <;> intro _)
            | ((with_reducible refine BIF.s ?_ ?_) <;> intro _)
            | (with_reducible refine NEXTK.normal ?_)
            | (with_reducible refine NEXTK.ret ?_)
            | (with_reducible refine NEXTK.exit ?_)
            | (with_reducible refine SEQ.plain ?_)
            | (with_reducible refine hK _ _ ?_)
            | ((with_reducible refine RUNL.agg (fun _ => ?_) ?_); (focus kernel_rfl))
            | (with_reducible refine RUNL.run ?_)
            | ((with_reducible refine AR.ok ?_ ?_); exact ⟨by first | omega | (dsimp only; omega), by first | omega | (dsimp only; omega)⟩)
            | (with_reducible refine AR.wr ?_)
            | ((with_reducible intro w3 e3); try have z3 := cutLe e3)
            | ((with_reducible intro h3); have h4 := Nat.le_of_lt h3; clear h4)))
          conv => whnf
          refine stM (i := _) o6 rfl rfl rfl (q - 1) (by omega) (by rw [List.getElem?_map, hzq2]; rfl) (by decide) (fun _ h => h) trivial (fun w7 e7 o7 => ?_)
          replace o7 : Own w7 lo 42 4 (.slice a n c) (((ls.set q z).set (q - 1) x).map encDmg) := by rw [List.map_set (l := ls.set q z)]; exact o7
          repeat (any_goals (
            conv => whnf
            first
            | (with_reducible refine And.intro ?_ ?_)
            | (exact True.intro)
            | ((with_reducible refine BIF.dec ?_ ?_) <;> intro _)
            | ((with_reducible refine BIF.s ?_ ?_) <;> intro _)
            | (with_reducible refine NEXTK.normal ?_)
            | (with_reducible refine NEXTK.ret ?_)
            | (with_reducible refine NEXTK.exit ?_)
            | (with_reducible refine SEQ.plain ?_)
            | (with_reducible refine hK _ _ ?_)
            | ((with_reducible refine RUNL.agg (fun _ => ?_) ?_); (focus kernel_rfl))
            | (with_reducible refine RUNL.run ?_)
            | ((with_reducible refine AR.ok ?_ ?_); exact ⟨by first | omega | (dsimp only; omega), by first | omega | (dsimp only; omega)⟩)
            | (with_reducible refine AR.wr ?_)
            | ((with_reducible intro w3 e3); try have z3 := cutLe e3)
            | ((with_reducible intro h3); have h4 := Nat.le_of_lt h3; clear h4)))
          refine ⟨d + 1, rfl, ⟨?_, trivial⟩, rfl, rfl, ⟨by omega, ?_, ?_⟩, by omega⟩
          · simp [lk, Nat.beq]; omega
          · rw [show t + 1 - (d + 1) = q - 1 from by omega, List.drop_eq_getElem_cons (by omega)]
            intro y hy
            rcases List.mem_cons.1 hy with rfl | hy
            · rw [(List.getElem?_eq_some_iff.1 hz).2]; exact hxz
            · rw [show q - 1 + 1 = q from by omega] at hy
              exact hgt y hy
          · have e8 : (ls.set q z).set (q - 1) x = s.take (q - 1) ++ x :: s.drop (q - 1) ++ xs.drop (t + 2) := by rw [hls]; exact swap_ins hq0 hz
            rw [show t + 1 - (d + 1) = q - 1 from by omega, ← e8]; exact o7
      · have hc3 : ¬ cmp3 (key x) (key z) < 0 := by unfold cmp3; rw [if_neg hxz]; split <;> omega
        have hfin : insK key s x = s.take q ++ x :: s.drop q := insK_at key q (by omega) hsrt hgt (fun y _ hy => by rw [hz] at hy; cases hy; omega)
        repeat (any_goals (
          conv => whnf
          first
          | ((with_reducible refine DRAW.quietE (id := 4) ?_ ?_ ?_); kernel_rfl; kernel_rfl)
          | ((exfalso; omega))
          | ((with_reducible refine OBL.mk ?_ (fun _ => ?_)); exact ⟨by omega, by omega, his⟩)
          | ((with_reducible refine ELD.atNow (enc := encDmg) (xs := ls) q hown1.row.1 ?_ ?_ (fun x' hx' => ?_)); omega; omega; obtain rfl : x = x' := by (rw [hxq] at hx'; exact Option.some.inj hx'))
          | ((with_reducible refine ELD.atNow (enc := encDmg) (xs := ls) (q - 1) hown1.row.1 ?_ ?_ (fun x' hx' => ?_)); omega; omega; obtain rfl : z = x' := by (rw [hzq] at hx'; exact Option.some.inj hx'))
          | ((with_reducible refine callQ (g := f) ?_ ?_); exact hb; refine ⟨_, fun w' _ => hf x z w', ?_⟩)
          | ((with_reducible intro w3 e3); have z3 := cutLe e3; replace hown1 := hown1.e0 e3)
          | ((with_reducible refine BIF.dec ?_ ?_) <;> intro _)
          | ((with_reducible refine BIF.s ?_ ?_) <;> intro _)
          | (with_reducible refine NEXTK.normal ?_)
          | (with_reducible refine NEXTK.ret ?_)
          | (with_reducible refine NEXTK.exit ?_)
          | (with_reducible refine SEQ.plain ?_)
          | (with_reducible refine hK _ _ ?_)
          | ((with_reducible refine RUNL.agg (fun _ => ?_) ?_); (focus kernel_rfl))
          | (with_reducible refine RUNL.run ?_)
          | ((with_reducible refine AR.ok ?_ ?_); exact ⟨by first | omega | (dsimp only; omega), by first | omega | (dsimp only; omega)⟩)
          | (with_reducible refine AR.wr ?_)
          | ((with_reducible intro w3 e3); try have z3 := cutLe e3)
          | ((with_reducible intro h3); have h4 := Nat.le_of_lt h3; clear h4)))
        refine ⟨t + 1, rfl, ⟨?_, trivial⟩, rfl, rfl, ⟨by omega, ?_⟩, by omega⟩
        · simp [lk, Nat.beq]
        · rw [hnext, hfin, ← hls]; exact hown1
  · have htn : t + 1 = n := by omega
    repeat (any_goals (
      conv => whnf
      first
      | ((with_reducible refine BIF.dec ?_ ?_) <;> intro _)
      | ((with_reducible refine BIF.s ?_ ?_) <;> intro _)
      | (with_reducible refine NEXTK.normal ?_)
      | (with_reducible refine NEXTK.ret ?_)
      | (with_reducible refine NEXTK.exit ?_)
      | (with_reducible refine SEQ.plain ?_)
      | (with_reducible refine hK _ _ ?_)
      | ((with_reducible refine RUNL.agg (fun _ => ?_) ?_); (focus kernel_rfl))
      | (with_reducible refine RUNL.run ?_)
      | ((with_reducible refine AR.ok ?_ ?_); exact ⟨by first | omega | (dsimp only; omega), by first | omega | (dsimp only; omega)⟩)
      | (with_reducible refine AR.wr ?_)
      | ((with_reducible intro w3 e3); try have z3 := cutLe e3)
      | ((with_reducible intro h3); have h4 := Nat.le_of_lt h3; clear h4)))
    intro hx
    rw [List.take_of_length_le (by omega), List.drop_eq_nil_of_le (by omega), List.append_nil] at hown
    exact ⟨_, rfl, hx, rfl, hown⟩
theorem stableDmg_c (key : Dmg → Int) (lo : Nat) (a : Option Addr) (n c : Nat) (xs : List Dmg) (f : FuncId) (w : World) (ho : Own w lo 42 4 (.slice a n c) (xs.map encDmg)) (hn : xs.length = n) (hm : n ≤ 19) (hb : hasBody Tryd.prog f = true)
    (hf : ∀ x y : Dmg, ∀ w', Calls Tryd.prog f (#[].toList ++ [Value.agg (encDmg x).toArray, Value.agg (encDmg y).toArray] ++ #[].toList).toArray w' fun e w'' => e = .returned (.int .i64 (cmp3 (key x) (key y))) ∧ E0 w' w'') :
    Calls Tryd.prog 61 #[.slice a n c, .int .i64 n, .func (.func f) #[] #[]] w fun e w' => ∃ r, e = .returned r ∧ Ext (fun b => (Value.slice a n c).ownBlock = some b) w w' ∧ r = .tuple #[] ∧ Own w' lo 42 4 (.slice a n c) ((isort key xs).map encDmg) := by
  refine enterK (fun b => (Value.slice a n c).ownBlock = some b) 63 Tryd.func61 rfl rfl rfl fun K hK => ?_
  repeat (any_goals (
    conv => whnf
    first
    | ((with_reducible refine BIF.dec ?_ ?_) <;> intro _)
    | ((with_reducible refine BIF.s ?_ ?_) <;> intro _)
    | (with_reducible refine NEXTK.normal ?_)
    | (with_reducible refine NEXTK.ret ?_)
    | (with_reducible refine NEXTK.exit ?_)
    | (with_reducible refine SEQ.plain ?_)
    | (with_reducible refine hK _ _ ?_)
    | ((with_reducible refine RUNL.agg (fun _ => ?_) ?_); (focus kernel_rfl))
    | (with_reducible refine RUNL.run ?_)
    | ((with_reducible refine AR.ok ?_ ?_); exact ⟨by first | omega | (dsimp only; omega), by first | omega | (dsimp only; omega)⟩)
    | (with_reducible refine AR.wr ?_)
    | ((with_reducible intro w3 e3); try have z3 := cutLe e3)
    | ((with_reducible intro h3); have h4 := Nat.le_of_lt h3; clear h4)))
  conv => whnf
  refine LOOP.mk Unit (fun _ => [(7, .v (.int .i64 0)), (8, .v (.int .i64 20))]) (fun _ wr => Own wr lo 42 4 (.slice a n c) (xs.map encDmg)) (fun _ => 0) () rfl ⟨rfl, rfl, trivial⟩ (by repeat (first | exact ho | refine Own.e0 ?_ (by assumption))) ?_
  rintro ⟨⟩ wr - hown
  repeat (any_goals (
    conv => whnf
    first
    | ((exfalso; omega))
    | ((with_reducible refine BIF.dec ?_ ?_) <;> intro _)
    | ((with_reducible refine BIF.s ?_ ?_) <;> intro _)
    | (with_reducible refine NEXTK.normal ?_)
    | (with_reducible refine NEXTK.ret ?_)
    | (with_reducible refine NEXTK.exit ?_)
    | (with_reducible refine SEQ.plain ?_)
    | (with_reducible refine hK _ _ ?_)
    | ((with_reducible refine RUNL.agg (fun _ => ?_) ?_); (focus kernel_rfl))
    | (with_reducible refine RUNL.run ?_)
    | ((with_reducible refine AR.ok ?_ ?_); exact ⟨by first | omega | (dsimp only; omega), by first | omega | (dsimp only; omega)⟩)
    | (with_reducible refine AR.wr ?_)
    | ((with_reducible intro w3 e3); try have z3 := cutLe e3)
    | ((with_reducible intro h3); have h4 := Nat.le_of_lt h3; clear h4)))
  conv => whnf
  refine callM (g := 70) (by kernel_rfl) ⟨_, _, trivial, fun b hb h => h, insSortDmg_c key _ _ _ _ xs f _ hown hn (by omega) hb hf, fun r w6 e6 h => ?_⟩
  obtain ⟨rfl, o6⟩ := h
  repeat (any_goals (
    conv => whnf
    first
    | ((with_reducible refine BIF.dec ?_ ?_) <;> intro _)
    | ((with_reducible refine BIF.s ?_ ?_) <;> intro _)
    | (with_reducible refine NEXTK.normal ?_)
    | (with_reducible refine NEXTK.ret ?_)
    | (with_reducible refine NEXTK.exit ?_)
    | (with_reducible refine SEQ.plain ?_)
    | (with_reducible refine hK _ _ ?_)
    | ((with_reducible refine RUNL.agg (fun _ => ?_) ?_); (focus kernel_rfl))
    | (with_reducible refine RUNL.run ?_)
    | ((with_reducible refine AR.ok ?_ ?_); exact ⟨by first | omega | (dsimp only; omega), by first | omega | (dsimp only; omega)⟩)
    | (with_reducible refine AR.wr ?_)
    | ((with_reducible intro w3 e3); try have z3 := cutLe e3)
    | ((with_reducible intro h3); have h4 := Nat.le_of_lt h3; clear h4)))
  conv => whnf
  refine LOOP.mk Unit (fun _ => [(6, .v (.int .i64 20))]) (fun _ wr => Own wr lo 42 4 (.slice a n c) ((isort key xs).map encDmg)) (fun _ => 0) () rfl ⟨rfl, trivial⟩ o6 ?_
  rintro ⟨⟩ ws - hown1
  repeat (any_goals (
    conv => whnf
    first
    | ((exfalso; omega))
    | ((with_reducible refine BIF.dec ?_ ?_) <;> intro _)
    | ((with_reducible refine BIF.s ?_ ?_) <;> intro _)
    | (with_reducible refine NEXTK.normal ?_)
    | (with_reducible refine NEXTK.ret ?_)
    | (with_reducible refine NEXTK.exit ?_)
    | (with_reducible refine SEQ.plain ?_)
    | (with_reducible refine hK _ _ ?_)
    | ((with_reducible refine RUNL.agg (fun _ => ?_) ?_); (focus kernel_rfl))
    | (with_reducible refine RUNL.run ?_)
    | ((with_reducible refine AR.ok ?_ ?_); exact ⟨by first | omega | (dsimp only; omega), by first | omega | (dsimp only; omega)⟩)
    | (with_reducible refine AR.wr ?_)
    | ((with_reducible intro w3 e3); try have z3 := cutLe e3)
    | ((with_reducible intro h3); have h4 := Nat.le_of_lt h3; clear h4)))
  intro hx
  exact ⟨_, rfl, hx, rfl, hown1⟩
theorem sortStableDmg_c (key : Dmg → Int) (lo : Nat) (a : Option Addr) (n c : Nat) (xs : List Dmg) (f : FuncId) (w : World) (ho : Own w lo 42 4 (.slice a n c) (xs.map encDmg)) (hn : xs.length = n) (hm : n ≤ 19) (hb : hasBody Tryd.prog f = true)
    (hf : ∀ x y : Dmg, ∀ w', Calls Tryd.prog f (#[].toList ++ [Value.agg (encDmg x).toArray, Value.agg (encDmg y).toArray] ++ #[].toList).toArray w' fun e w'' => e = .returned (.int .i64 (cmp3 (key x) (key y))) ∧ E0 w' w'') :
    Calls Tryd.prog 36 #[.slice a n c, .func (.func f) #[] #[]] w fun e w' => ∃ r, e = .returned r ∧ Ext (fun b => (Value.slice a n c).ownBlock = some b) w w' ∧ r = .tuple #[] ∧ Own w' lo 42 4 (.slice a n c) ((isort key xs).map encDmg) := by
  refine enterK (fun b => (Value.slice a n c).ownBlock = some b) 9 Tryd.func36 rfl rfl rfl fun K hK => ?_
  repeat (any_goals (
    conv => whnf
    first
    | ((with_reducible refine BIF.dec ?_ ?_) <;> intro _)
    | ((with_reducible refine BIF.s ?_ ?_) <;> intro _)
    | (with_reducible refine NEXTK.normal ?_)
    | (with_reducible refine NEXTK.ret ?_)
    | (with_reducible refine NEXTK.exit ?_)
    | (with_reducible refine SEQ.plain ?_)
    | (with_reducible refine hK _ _ ?_)
    | ((with_reducible refine RUNL.agg (fun _ => ?_) ?_); (focus kernel_rfl))
    | (with_reducible refine RUNL.run ?_)
    | ((with_reducible refine AR.ok ?_ ?_); exact ⟨by first | omega | (dsimp only; omega), by first | omega | (dsimp only; omega)⟩)
    | (with_reducible refine AR.wr ?_)
    | ((with_reducible intro w3 e3); try have z3 := cutLe e3)
    | ((with_reducible intro h3); have h4 := Nat.le_of_lt h3; clear h4)))
  conv => whnf
  refine callM (g := 61) (by kernel_rfl) ⟨_, _, trivial, fun b hb h => h, stableDmg_c key _ _ _ _ xs f _ (by repeat (first | exact ho | refine Own.e0 ?_ (by assumption))) hn hm hb hf, fun r w6 e6 h => ?_⟩
  obtain ⟨rfl, o6⟩ := h
  repeat (any_goals (
    conv => whnf
    first
    | ((with_reducible refine BIF.dec ?_ ?_) <;> intro _)
    | ((with_reducible refine BIF.s ?_ ?_) <;> intro _)
    | (with_reducible refine NEXTK.normal ?_)
    | (with_reducible refine NEXTK.ret ?_)
    | (with_reducible refine NEXTK.exit ?_)
    | (with_reducible refine SEQ.plain ?_)
    | (with_reducible refine hK _ _ ?_)
    | ((with_reducible refine RUNL.agg (fun _ => ?_) ?_); (focus kernel_rfl))
    | (with_reducible refine RUNL.run ?_)
    | ((with_reducible refine AR.ok ?_ ?_); exact ⟨by first | omega | (dsimp only; omega), by first | omega | (dsimp only; omega)⟩)
    | (with_reducible refine AR.wr ?_)
    | ((with_reducible intro w3 e3); try have z3 := cutLe e3)
    | ((with_reducible intro h3); have h4 := Nat.le_of_lt h3; clear h4)))
  intro hx
  exact ⟨_, rfl, hx, rfl, o6⟩
def gradeW (x : Dmg) : Int := IntKind.i64.wrap (IntKind.i64.wrap (IntKind.i64.wrap (2 * x.fTears) + x.fFolds) + x.fStain)
theorem gradeW_ok {x : Dmg} (h : okD x = true) : gradeW x = gradeD x := by
  have h0 := okD_spec h
  unfold gradeW gradeD
  rw [wrap64_in (z := 2 * x.fTears) (by omega) (by omega), wrap64_in (z := 2 * x.fTears + x.fFolds) (by omega) (by omega), wrap64_in (by omega) (by omega)]
def gk (x : Dmg) : Int := -gradeW x
theorem cmp3_neg (a b : Int) : cmp3 b a = cmp3 (-a) (-b) := by
  unfold cmp3
  repeat (first | omega | split)
theorem gradeAny_c (x : Dmg) (w : World) : Calls Tryd.prog 39 #[.agg (encDmg x).toArray] w fun e w' => e = .returned (.int .i64 (gradeW x)) ∧ E0 w w' := by
  refine enterK Non 12 Tryd.func39 rfl rfl rfl fun K hK => ?_
  repeat (any_goals (
    conv => whnf
    first
    | (with_reducible refine AR.wr ?_)
    | ((with_reducible refine BIF.dec ?_ ?_) <;> intro _)
    | ((with_reducible refine BIF.s ?_ ?_) <;> intro _)
    | (with_reducible refine NEXTK.normal ?_)
    | (with_reducible refine NEXTK.ret ?_)
    | (with_reducible refine NEXTK.exit ?_)
    | (with_reducible refine SEQ.plain ?_)
    | (with_reducible refine hK _ _ ?_)
    | ((with_reducible refine RUNL.agg (fun _ => ?_) ?_); (focus kernel_rfl))
    | (with_reducible refine RUNL.run ?_)
    | ((with_reducible refine AR.ok ?_ ?_); exact ⟨by first | omega | (dsimp only; omega), by first | omega | (dsimp only; omega)⟩)
    | (with_reducible refine AR.wr ?_)
    | ((with_reducible intro w3 e3); try have z3 := cutLe e3)
    | ((with_reducible intro h3); have h4 := Nat.le_of_lt h3; clear h4)))
  intro hx
  exact ⟨rfl, hx⟩
theorem WorstSheets1_c (x y : Dmg) (w : World) : Calls Tryd.prog 37 #[.agg (encDmg x).toArray, .agg (encDmg y).toArray] w fun e w' => e = .returned (.int .i64 (cmp3 (gk x) (gk y))) ∧ E0 w w' := by
  refine enterK Non 10 Tryd.func37 rfl rfl rfl fun K hK => ?_
  repeat (any_goals (
    conv => whnf
    first
    | ((with_reducible refine DRAW.plan (id := 1) (.start (.alt 0 (.start (.alt 1 (.start (.alt 2 (.start (.alt 3 (.start (.alt 4 (.one 5 .done) .stop)) .stop)) .stop)) (.alt 2 (.start (.alt 1 (.start (.alt 3 (.start (.alt 4 (.one 5 .done) .stop)) .stop)) .stop)) .stop))) (.alt 2 (.start (.alt 0 (.start (.alt 1 (.start (.alt 3 (.start (.alt 4 (.one 5 .done) .stop)) .stop)) .stop)) .stop)) .stop))) ?_ ?_ ?_ ?_); kernel_rfl; kernel_rfl; kernel_rfl)
    | (with_reducible refine And.intro ?_ ?_)
    | (exact True.intro)
    | ((with_reducible refine callF (g := 39) ?_ ?_); kernel_rfl; refine ⟨_, gradeAny_c _ _, ?_⟩; intro w4 e4; have z4 := cutLe e4)
    | ((with_reducible refine callF (g := 38) ?_ ?_); kernel_rfl; refine ⟨_, Compare_c _ _ _, ?_⟩; intro w4 e4; have z4 := cutLe e4)
    | ((with_reducible refine BIF.dec ?_ ?_) <;> intro _)
    | ((with_reducible refine BIF.s ?_ ?_) <;> intro _)
    | (with_reducible refine NEXTK.normal ?_)
    | (with_reducible refine NEXTK.ret ?_)
    | (with_reducible refine NEXTK.exit ?_)
    | (with_reducible refine SEQ.plain ?_)
    | (with_reducible refine hK _ _ ?_)
    | ((with_reducible refine RUNL.agg (fun _ => ?_) ?_); (focus kernel_rfl))
    | (with_reducible refine RUNL.run ?_)
    | ((with_reducible refine AR.ok ?_ ?_); exact ⟨by first | omega | (dsimp only; omega), by first | omega | (dsimp only; omega)⟩)
    | (with_reducible refine AR.wr ?_)
    | ((with_reducible intro w3 e3); try have z3 := cutLe e3)
    | ((with_reducible intro h3); have h4 := Nat.le_of_lt h3; clear h4)))
  all_goals
    intro hx
    refine ⟨?_, hx⟩
    rw [gk, gk, ← cmp3_neg]; rfl
def doneL (xs : List Dmg) (ys : List Rep) : List Dmg := xs.map fun x => doneD x ys 4000
def worstL (xs : List Dmg) (ys : List Rep) : List Dmg := isort gk (doneL xs ys)
def worstP (xs : List Dmg) (ys : List Rep) (n : Int) : List Int × Bool :=
  if areR xs ys && inB n 0 10 then (((worstL xs ys).take n.toNat).map (·.fSheet), true) else ([], false)
theorem worstP_bad {xs : List Dmg} {ys : List Rep} {n : Int} (h : ¬ (areR xs ys = true ∧ inB n 0 10 = true)) : worstP xs ys n = ([], false) := by
  unfold worstP
  rw [if_neg (by simpa using h)]
theorem worstP_good {xs : List Dmg} {ys : List Rep} {n : Int} (h : areR xs ys = true) (h2 : inB n 0 10 = true) : worstP xs ys n = (((worstL xs ys).take n.toNat).map (·.fSheet), true) := by
  unfold worstP
  rw [if_pos (by simp [h, h2])]
theorem worstL_len (xs : List Dmg) (ys : List Rep) : (worstL xs ys).length = xs.length := by
  have := (isort_all gk (doneL xs ys) (doneL xs ys).length (Nat.le_refl _)).2.1
  rw [List.take_length] at this
  rw [worstL, this, doneL, List.length_map]
theorem worstP_len (xs : List Dmg) (ys : List Rep) (n : Int) : (worstP xs ys n).1.length ≤ 10 := by
  unfold worstP
  split
  · rename_i h
    simp only [Bool.and_eq_true] at h
    have h2 := inB_iff.1 h.2
    simp only [List.length_map, List.length_take]
    omega
  · simp
theorem doneL_take {xs : List Dmg} {k : Nat} {x : Dmg} (ys : List Rep) (h : xs[k]? = some x) : doneL (xs.take (k + 1)) ys = doneL (xs.take k) ys ++ [doneD x ys 4000] := by
  unfold doneL
  rw [List.take_add_one, h]; simp
theorem WorstSheets_c (a b : Option Addr) (n c m d : Nat) (xs : List Dmg) (ys : List Rep) (t : Int) (w : World) (hr : Row w a 4 (xs.map encDmg)) (hs : Row w b 3 (ys.map encRep)) (hn : xs.length = n) (hm : ys.length = m) (hn1 : n ≤ 4611686018427387904) (hm1 : m ≤ 4611686018427387904) (hc : m ≤ d ∧ d < 9223372036854775808) :
    Calls Tryd.prog 14 #[.slice a n c, .slice b m d, .int .i64 t] w fun e w' => ∃ r, e = .returned r ∧ E0 w w' ∧ ∃ v, r = .tuple #[v, .bool (worstP xs ys t).2] ∧ Own w' w.heap.size 3 1 v ((worstP xs ys t).1.map encI) := by
  refine enterK Non 56 Tryd.func14 rfl rfl rfl fun K hK => ?_
  by_cases hg : areR xs ys = true ∧ inB t 0 10 = true
  · obtain ⟨g1, g2⟩ := hg
    have hl := areD_len (areR_spec g1).1
    have htb := inB_iff.1 g2
    repeat (any_goals (
      conv => whnf
      first
      | ((with_reducible refine callF (g := 31) ?_ ?_); kernel_rfl; refine ⟨_, AreRepairs_c _ _ _ _ _ _ xs ys _ (by repeat (first | assumption | refine Row.e0 ?_ (by assumption))) (by repeat (first | assumption | refine Row.e0 ?_ (by assumption))) hn hm hn1 hm1 hc, ?_⟩; intro w4 e4; have z4 := cutLe e4)
      | ((with_reducible refine callF (g := 34) ?_ ?_); kernel_rfl; refine ⟨_, within_c _ _ _ _, ?_⟩; intro w4 e4; have z4 := cutLe e4)
      | ((with_reducible refine BIF.s (fun h => absurd h ?_) (fun _ => ?_)); focus (simp [g1]; done))
      | ((with_reducible refine BIF.s (fun _ => ?_) (fun h => absurd h ?_)); rotate_left; focus (simp [g1]; done))
      | ((with_reducible refine BIF.s (fun h => absurd h ?_) (fun _ => ?_)); focus (simp [g2]; done))
      | ((with_reducible refine BIF.s (fun _ => ?_) (fun h => absurd h ?_)); rotate_left; focus (simp [g2]; done))
      | ((with_reducible refine BIF.dec ?_ ?_) <;> intro _)
      | ((with_reducible refine BIF.s ?_ ?_) <;> intro _)
      | (with_reducible refine NEXTK.normal ?_)
      | (with_reducible refine NEXTK.ret ?_)
      | (with_reducible refine NEXTK.exit ?_)
      | (with_reducible refine SEQ.plain ?_)
      | (with_reducible refine hK _ _ ?_)
      | ((with_reducible refine RUNL.agg (fun _ => ?_) ?_); (focus kernel_rfl))
      | (with_reducible refine RUNL.run ?_)
      | ((with_reducible refine AR.ok ?_ ?_); exact ⟨by first | omega | (dsimp only; omega), by first | omega | (dsimp only; omega)⟩)
      | (with_reducible refine AR.wr ?_)
      | ((with_reducible intro w3 e3); try have z3 := cutLe e3)
      | ((with_reducible intro h3); have h4 := Nat.le_of_lt h3; clear h4)))
    conv => whnf
    refine LOOP.mk (Nat × (Option Addr × Nat × Nat)) (fun g => [(25, .v (.int .i64 g.1)), (8, .v (.slice g.2.1 g.2.2.1 g.2.2.2))])
      (fun g wr => g.1 ≤ n ∧ w.heap.size ≤ wr.heap.size ∧ Own wr w.heap.size 42 4 (.slice g.2.1 g.2.2.1 g.2.2.2) ((doneL (xs.take g.1) ys).map encDmg)) (fun g => n - g.1) (0, (none, 0, 0)) rfl ⟨rfl, rfl, trivial⟩ ⟨Nat.zero_le _, by show w.heap.size ≤ w4.heap.size; omega, Own.nil _ _ _ _⟩ ?_
    rintro ⟨j, ⟨p, q, e⟩⟩ wr - ⟨hj, hz, hown⟩
    simp only at hj hz hown
    dsimp only
    have oL := fun k h => hown.block (k := k) h
    have hml := hown.row.2
    rw [List.length_map] at hml
    have hdl : (doneL (xs.take j) ys).length ≤ 10 := by unfold doneL; rw [List.length_map, List.length_take]; omega
    conv => whnf
    repeat (first | ((with_reducible refine NEXTK.normal ?_); conv => whnf) | ((with_reducible refine NEXTK.exit ?_); conv => whnf) | ((with_reducible refine NEXTK.ret ?_); conv => whnf) | ((with_reducible refine SEQ.plain ?_); conv => whnf) | ((with_reducible refine AR.ok ?_ ?_); exact ⟨by omega, by omega⟩; conv => whnf))
    refine BIF.dec (fun hlt => ?_) (fun hlt => ?_)
    · have hlt' : j < xs.length := by omega
      have his := hr.isSome (by simp; omega)
      obtain ⟨x, hx⟩ : ∃ x, xs[j]? = some x := ⟨xs[j]'(by omega), by simp⟩
      have hxo := areD_at (areR_spec g1).1 hx
      obtain ⟨z, hz0⟩ : ∃ z, z = doneD x ys 4000 := ⟨_, rfl⟩
      repeat (any_goals (
        conv => whnf
        first
        | ((with_reducible refine OBL.mk ?_ (fun _ => ?_)); exact ⟨by first | omega | (dsimp only; omega), by first | omega | (dsimp only; omega), his⟩)
        | ((with_reducible refine ELD.at (j) hr ?_ ?_ ?_ (fun x' hx' => ?_)); exact mAddr_Non _; (first | rfl | omega); exact hlt'; obtain rfl : x = x' := by (rw [hx] at hx'; exact Option.some.inj hx'))
        | ((with_reducible intro w3 e3); have z3 := cutLe e3; replace hown := hown.ext e3 (by first | exact fun _ _ h => h | (intro k hk h; have hh := oL k hk; simp only [bk] at h; omega)))
        | ((with_reducible refine callX (g := 35) ?_ ?_); kernel_rfl; intro hX; refine ⟨_, hz0 ▸ repaired_c _ _ _ x ys _ _ (hs.e0 hX) hm hm1 hxo, ?_⟩; intro w4 e4; have z4 := cutLe e4; clear hX; replace hown := hown.e0 e4)
        | ((with_reducible refine bsS elemDmg [.agg (encDmg z).toArray] ?_ ?_ ?_ ?_ ?_); (focus rfl); (focus rfl); (focus (intro v hv; simp at hv; subst hv; rfl)); (focus omega); intro w9 e9 oB; have z9 := cutLe e9; (try replace oC := oC.e0 e9))
        | ((with_reducible refine BIF.dec ?_ ?_) <;> intro _)
        | ((with_reducible refine BIF.s ?_ ?_) <;> intro _)
        | (with_reducible refine NEXTK.normal ?_)
        | (with_reducible refine NEXTK.ret ?_)
        | (with_reducible refine NEXTK.exit ?_)
        | (with_reducible refine SEQ.plain ?_)
        | (with_reducible refine hK _ _ ?_)
        | ((with_reducible refine RUNL.agg (fun _ => ?_) ?_); (focus kernel_rfl))
        | (with_reducible refine RUNL.run ?_)
        | ((with_reducible refine AR.ok ?_ ?_); exact ⟨by first | omega | (dsimp only; omega), by first | omega | (dsimp only; omega)⟩)
        | (with_reducible refine AR.wr ?_)
        | ((with_reducible intro w3 e3); try have z3 := cutLe e3)
        | ((with_reducible intro h3); have h4 := Nat.le_of_lt h3; clear h4)))
      conv => whnf
      replace hown := hown.e0 e9
      refine apS (ns := [encDmg z]) elemDmg hown oB.row.1 rfl (by intro l hl; simp at hl; subst hl; rfl) ⟨by simp; omega, by simp; omega⟩ ⟨(by show w.heap.size ≤ _; omega), by omega⟩ ⟨fun h => by have := (oL _ h).2; dsimp only at this; omega, trivial⟩ (fun v2 w2 x2 o2 => ?_)
      have z2 := cutLe x2
      replace o2 : Own w2 w.heap.size 42 4 v2 ((doneL (xs.take (j + 1)) ys).map encDmg) := by rw [doneL_take ys hx, ← hz0]; simpa using o2
      obtain ⟨b2, d2, rfl, q2, p2⟩ := o2.rowx
      repeat (any_goals (
        conv => whnf
        first
        | ((with_reducible refine BIF.dec ?_ ?_) <;> intro _)
        | ((with_reducible refine BIF.s ?_ ?_) <;> intro _)
        | (with_reducible refine NEXTK.normal ?_)
        | (with_reducible refine NEXTK.ret ?_)
        | (with_reducible refine NEXTK.exit ?_)
        | (with_reducible refine SEQ.plain ?_)
        | (with_reducible refine hK _ _ ?_)
        | ((with_reducible refine RUNL.agg (fun _ => ?_) ?_); (focus kernel_rfl))
        | (with_reducible refine RUNL.run ?_)
        | ((with_reducible refine AR.ok ?_ ?_); exact ⟨by first | omega | (dsimp only; omega), by first | omega | (dsimp only; omega)⟩)
        | (with_reducible refine AR.wr ?_)
        | ((with_reducible intro w3 e3); try have z3 := cutLe e3)
        | ((with_reducible intro h3); have h4 := Nat.le_of_lt h3; clear h4)))
      refine ⟨(j + 1, (b2, _, d2)), rfl, ⟨rfl, rfl, trivial⟩, rfl, rfl, ⟨by simp only; omega, ?_, o2⟩, by simp only; omega⟩
      show w.heap.size ≤ w2.heap.size
      omega
    · have hkj : j = xs.length := by omega
      rw [hkj, List.take_length] at hown
      obtain ⟨us, hus⟩ : ∃ us, us = doneL xs ys := ⟨_, rfl⟩
      have hul : us.length = xs.length := by rw [hus, doneL, List.length_map]
      rw [← hus] at hown
      obtain ⟨p1, e1, hp, qp, pp⟩ := hown.rowx
      cases hp
      repeat (any_goals (
        conv => whnf
        first
        | ((with_reducible refine BIF.dec ?_ ?_) <;> intro _)
        | ((with_reducible refine BIF.s ?_ ?_) <;> intro _)
        | (with_reducible refine NEXTK.normal ?_)
        | (with_reducible refine NEXTK.ret ?_)
        | (with_reducible refine NEXTK.exit ?_)
        | (with_reducible refine SEQ.plain ?_)
        | (with_reducible refine hK _ _ ?_)
        | ((with_reducible refine RUNL.agg (fun _ => ?_) ?_); (focus kernel_rfl))
        | (with_reducible refine RUNL.run ?_)
        | ((with_reducible refine AR.ok ?_ ?_); exact ⟨by first | omega | (dsimp only; omega), by first | omega | (dsimp only; omega)⟩)
        | (with_reducible refine AR.wr ?_)
        | ((with_reducible intro w3 e3); try have z3 := cutLe e3)
        | ((with_reducible intro h3); have h4 := Nat.le_of_lt h3; clear h4)))
      conv => whnf
      refine callM (g := 36) (by kernel_rfl) ⟨_, _, trivial, fun b hb h => hown.fresh (by show w.heap.size ≤ _; omega) b hb h,
        sortStableDmg_c gk _ _ _ _ us _ _ hown rfl (by omega) (by kernel_rfl) (fun x y w' => WorstSheets1_c x y w'), fun r w7 e7 h7 => ?_⟩
      obtain ⟨rfl, o7⟩ := h7
      have z7 := cutLe e7
      obtain ⟨zs, hzs⟩ : ∃ zs, zs = worstL xs ys := ⟨_, rfl⟩
      have hzl : zs.length = xs.length := by rw [hzs]; exact worstL_len xs ys
      rw [show isort gk us = zs from by rw [hzs, hus]; rfl] at o7
      have oS := fun k h => o7.block (k := k) h
      obtain ⟨vs, hvs⟩ : ∃ vs, vs = zs.take (min t.toNat zs.length) := ⟨_, rfl⟩
      have hvl : vs.length = min t.toNat zs.length := by rw [hvs, List.length_take]; omega
      repeat (any_goals (
        conv => whnf
        first
        | ((with_reducible refine OBL.mk ?_ (fun _ => ?_)); omega)
        | ((with_reducible refine BIF.dec ?_ ?_) <;> intro _)
        | ((with_reducible refine BIF.s ?_ ?_) <;> intro _)
        | (with_reducible refine NEXTK.normal ?_)
        | (with_reducible refine NEXTK.ret ?_)
        | (with_reducible refine NEXTK.exit ?_)
        | (with_reducible refine SEQ.plain ?_)
        | (with_reducible refine hK _ _ ?_)
        | ((with_reducible refine RUNL.agg (fun _ => ?_) ?_); (focus kernel_rfl))
        | (with_reducible refine RUNL.run ?_)
        | ((with_reducible refine AR.ok ?_ ?_); exact ⟨by first | omega | (dsimp only; omega), by first | omega | (dsimp only; omega)⟩)
        | (with_reducible refine AR.wr ?_)
        | ((with_reducible intro w3 e3); try have z3 := cutLe e3)
        | ((with_reducible intro h3); have h4 := Nat.le_of_lt h3; clear h4)))
      conv => whnf
      refine LOOP.mk (Nat × (Option Addr × Nat × Nat)) (fun g => [(45, .v (.int .i64 g.1)), (11, .v (.slice g.2.1 g.2.2.1 g.2.2.2))])
        (fun g wr => g.1 ≤ vs.length ∧ w7.heap.size ≤ wr.heap.size ∧ Own wr w7.heap.size 3 1 (.slice g.2.1 g.2.2.1 g.2.2.2) (((vs.take g.1).map (·.fSheet)).map encI) ∧ Own wr w.heap.size 42 4 (.slice p us.length e) (zs.map encDmg)) (fun g => vs.length - g.1) (0, (none, 0, 0)) rfl ⟨rfl, rfl, trivial⟩ ⟨Nat.zero_le _, Nat.le_refl _, Own.nil _ _ _ _, o7⟩ ?_
      rintro ⟨k, ⟨p3, q3, e3'⟩⟩ wv - ⟨hk, hz2, hout, hsrt⟩
      simp only at hk hz2 hout hsrt
      dsimp only
      have oL2 := fun k h => hout.block (k := k) h
      have oS2 := fun k h => hsrt.block (k := k) h
      have hml2 := hout.row.2
      rw [List.length_map, List.length_map, List.length_take] at hml2
      conv => whnf
      repeat (first | ((with_reducible refine NEXTK.normal ?_); conv => whnf) | ((with_reducible refine NEXTK.exit ?_); conv => whnf) | ((with_reducible refine NEXTK.ret ?_); conv => whnf) | ((with_reducible refine SEQ.plain ?_); conv => whnf) | ((with_reducible refine AR.ok ?_ ?_); exact ⟨by omega, by omega⟩; conv => whnf))
      refine BIF.dec (fun hlt => ?_) (fun hlt => ?_)
      · have hlt' : k < vs.length := by omega
        have hsb := hsrt.row.1.sub 0 (min t zs.length) e (by omega)
        rw [show (zs.drop (Int.toNat 0)).take ((min t (zs.length : Int)).toNat - Int.toNat 0) = vs from by rw [hvs, show (min t (zs.length : Int)).toNat - Int.toNat 0 = min t.toNat zs.length from by omega]; rfl] at hsb
        have his := hsb.isSome (by simp; omega)
        obtain ⟨x, hx⟩ : ∃ x, vs[k]? = some x := ⟨vs[k]'(by omega), by simp⟩
        repeat (any_goals (
          conv => whnf
          first
          | ((with_reducible refine OBL.mk ?_ (fun _ => ?_)); exact ⟨by first | omega | (dsimp only; omega), by first | omega | (dsimp only; omega), his⟩)
          | ((with_reducible refine ELD.atNow (enc := encDmg) (xs := vs) k hsb ?_ ?_ (fun x' hx' => ?_)); (first | rfl | omega); omega; obtain rfl : x = x' := by (rw [hx] at hx'; exact Option.some.inj hx'))
          | ((with_reducible intro w3 e3); have z3 := cutLe e3; replace hout := hout.ext e3 (by first | exact fun _ _ h => h | (intro k hk h; have hh := oL2 k hk; simp only [bk] at h; omega)); replace hsrt := hsrt.ext e3 (by first | exact fun _ _ h => h | (intro k hk h; have hh := oS2 k hk; simp only [bk] at h; omega)))
          | ((with_reducible refine bsS elemI [.int .i64 x.fSheet] ?_ ?_ ?_ ?_ ?_); (focus rfl); (focus rfl); (focus (intro v hv; simp at hv; subst hv; rfl)); (focus omega); intro w9 e9 oB; have z9 := cutLe e9; (try replace oC := oC.e0 e9))
          | ((with_reducible refine BIF.dec ?_ ?_) <;> intro _)
          | ((with_reducible refine BIF.s ?_ ?_) <;> intro _)
          | (with_reducible refine NEXTK.normal ?_)
          | (with_reducible refine NEXTK.ret ?_)
          | (with_reducible refine NEXTK.exit ?_)
          | (with_reducible refine SEQ.plain ?_)
          | (with_reducible refine hK _ _ ?_)
          | ((with_reducible refine RUNL.agg (fun _ => ?_) ?_); (focus kernel_rfl))
          | (with_reducible refine RUNL.run ?_)
          | ((with_reducible refine AR.ok ?_ ?_); exact ⟨by first | omega | (dsimp only; omega), by first | omega | (dsimp only; omega)⟩)
          | (with_reducible refine AR.wr ?_)
          | ((with_reducible intro w3 e3); try have z3 := cutLe e3)
          | ((with_reducible intro h3); have h4 := Nat.le_of_lt h3; clear h4)))
        conv => whnf
        replace hout := hout.e0 e9
        replace hsrt := hsrt.e0 e9
        refine apS (ns := [encI x.fSheet]) elemI hout oB.row.1 rfl (by intro l hl; simp at hl; subst hl; rfl) ⟨by simp; omega, by simp; omega⟩ ⟨(by show w.heap.size ≤ _; omega), by omega⟩ ⟨fun h => by have := (oL2 _ h).2; dsimp only at this; omega, trivial⟩ (fun v2 w2 x2 o2 => ?_)
        have z2 := cutLe x2
        replace hsrt := hsrt.past x2 (fun k h1 h2 => by have := (oS k h1).2; have := (oL2 k h2).1; omega)
        replace o2 : Own w2 w7.heap.size 3 1 v2 (((vs.take (k + 1)).map (·.fSheet)).map encI) := by rw [List.take_add_one, hx]; simpa using o2
        obtain ⟨b2, d2, rfl, q2, p2⟩ := o2.rowx
        repeat (any_goals (
          conv => whnf
          first
          | ((with_reducible refine BIF.dec ?_ ?_) <;> intro _)
          | ((with_reducible refine BIF.s ?_ ?_) <;> intro _)
          | (with_reducible refine NEXTK.normal ?_)
          | (with_reducible refine NEXTK.ret ?_)
          | (with_reducible refine NEXTK.exit ?_)
          | (with_reducible refine SEQ.plain ?_)
          | (with_reducible refine hK _ _ ?_)
          | ((with_reducible refine RUNL.agg (fun _ => ?_) ?_); (focus kernel_rfl))
          | (with_reducible refine RUNL.run ?_)
          | ((with_reducible refine AR.ok ?_ ?_); exact ⟨by first | omega | (dsimp only; omega), by first | omega | (dsimp only; omega)⟩)
          | (with_reducible refine AR.wr ?_)
          | ((with_reducible intro w3 e3); try have z3 := cutLe e3)
          | ((with_reducible intro h3); have h4 := Nat.le_of_lt h3; clear h4)))
        refine ⟨(k + 1, (b2, _, d2)), rfl, ⟨rfl, rfl, trivial⟩, rfl, rfl, ⟨by simp only; omega, ?_, o2, hsrt⟩, by simp only; omega⟩
        show w7.heap.size ≤ w2.heap.size
        omega
      · have hkv : k = vs.length := by omega
        have hfin : vs.map (·.fSheet) = ((worstL xs ys).take t.toNat).map (·.fSheet) := by
          rw [hvs, ← hzs]
          congr 1
          rcases Nat.le_total t.toNat zs.length with h | h
          · rw [Nat.min_eq_left h]
          · rw [Nat.min_eq_right h, List.take_length, List.take_of_length_le h]
        rw [hkv, List.take_length, hfin] at hout
        repeat (any_goals (
          conv => whnf
          first
          | ((with_reducible refine BIF.dec ?_ ?_) <;> intro _)
          | ((with_reducible refine BIF.s ?_ ?_) <;> intro _)
          | (with_reducible refine NEXTK.normal ?_)
          | (with_reducible refine NEXTK.ret ?_)
          | (with_reducible refine NEXTK.exit ?_)
          | (with_reducible refine SEQ.plain ?_)
          | (with_reducible refine hK _ _ ?_)
          | ((with_reducible refine RUNL.agg (fun _ => ?_) ?_); (focus kernel_rfl))
          | (with_reducible refine RUNL.run ?_)
          | ((with_reducible refine AR.ok ?_ ?_); exact ⟨by first | omega | (dsimp only; omega), by first | omega | (dsimp only; omega)⟩)
          | (with_reducible refine AR.wr ?_)
          | ((with_reducible intro w3 e3); try have z3 := cutLe e3)
          | ((with_reducible intro h3); have h4 := Nat.le_of_lt h3; clear h4)))
        intro hx'
        rw [worstP_good g1 g2]
        exact ⟨_, rfl, hx', _, rfl, hout.lo (by omega)⟩
  · repeat (any_goals (
      conv => whnf
      first
      | ((with_reducible refine callF (g := 31) ?_ ?_); kernel_rfl; refine ⟨_, AreRepairs_c _ _ _ _ _ _ xs ys _ (by repeat (first | assumption | refine Row.e0 ?_ (by assumption))) (by repeat (first | assumption | refine Row.e0 ?_ (by assumption))) hn hm hn1 hm1 hc, ?_⟩; intro w4 e4; have z4 := cutLe e4)
      | ((with_reducible refine callF (g := 34) ?_ ?_); kernel_rfl; refine ⟨_, within_c _ _ _ _, ?_⟩; intro w4 e4; have z4 := cutLe e4)
      | ((exfalso; clear hK; simp_all; done))
      | ((with_reducible refine BIF.dec ?_ ?_) <;> intro _)
      | ((with_reducible refine BIF.s ?_ ?_) <;> intro _)
      | (with_reducible refine NEXTK.normal ?_)
      | (with_reducible refine NEXTK.ret ?_)
      | (with_reducible refine NEXTK.exit ?_)
      | (with_reducible refine SEQ.plain ?_)
      | (with_reducible refine hK _ _ ?_)
      | ((with_reducible refine RUNL.agg (fun _ => ?_) ?_); (focus kernel_rfl))
      | (with_reducible refine RUNL.run ?_)
      | ((with_reducible refine AR.ok ?_ ?_); exact ⟨by first | omega | (dsimp only; omega), by first | omega | (dsimp only; omega)⟩)
      | (with_reducible refine AR.wr ?_)
      | ((with_reducible intro w3 e3); try have z3 := cutLe e3)
      | ((with_reducible intro h3); have h4 := Nat.le_of_lt h3; clear h4)))
    all_goals
      intro hx'
      rw [worstP_bad hg]
      exact ⟨_, rfl, hx', _, rfl, Own.nil _ _ _ _⟩

end Go.Proofs.YtgopcppegjhmiaaDoor

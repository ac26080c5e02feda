/- Sorting texts. -/
import Derived.Test.YtohnoccmaeegdaaGreatDoorRows
import Derived.Test.YtohnoccmaeegdaaGreatDoorGiftsD
import Derived.Test.YtohnoccmaeegdaaGreatDoorGiftsB
namespace Go.Proofs.YtohnoccmaeegdaaGreatDoor
open Go Go.X Go.Proofs Go.ChangeShapes Go.WideShapes Go.ChangeAt Go.RowKit
open Go.ChangeMaps (open_string shut_string)
set_option maxHeartbeats 1000000
set_option maxRecDepth 20000
set_option linter.unusedVariables false
set_option linter.unusedSimpArgs false
theorem Len64_c (n : Int) (w : World) (h : 0 ≤ n ∧ n ≤ 12) : Calls Tryz.prog 86 #[.int .u64 n] w fun e w' => ∃ v, e = .returned v ∧ E0 w w' ∧ ∃ r : Int, v = .int .i64 r := by
  refine enterK Non 25 Tryz.func86 rfl rfl rfl fun K hK => ?_
  repeat (any_goals (
    conv => whnf
    first
    | ((with_reducible refine BIF.dec ?_ ?_) <;> intro _)
    | ((exfalso; omega))
    | ((with_reducible refine RUN.any (kd := .i64) (IntKind.i64.wrap bb) (fun _ => ?_) (fun z => ?_)); (focus kernel_rfl))
    | ((with_reducible refine RUN.int (kd := .u8) (z := IntKind.u8.wrap n) (fun _ => ?_) (wrap8_in (by omega) (by omega)) ?_); (focus kernel_rfl))
    | ((with_reducible refine OBL.mk ?_ (fun _ => ?_)); exact ⟨by omega, by show _ < (256 : Int); omega⟩; (conv => whnf); (generalize bget _ n.toNat = bb))
    | ((with_reducible refine BIF.dec ?_ ?_) <;> intro _)
    | ((with_reducible refine BIF.s ?_ ?_) <;> intro _)
    | (with_reducible refine NEXTK.normal ?_)
    | (with_reducible refine NEXTK.ret ?_)
    | (with_reducible refine NEXTK.exit ?_)
    | (with_reducible refine SEQ.plain ?_)
    | (with_reducible refine hK _ _ ?_)
    | ((with_reducible refine RUNL.agg (fun _ => ?_) ?_); (focus kernel_rfl))
    | (with_reducible refine RUNL.run ?_)
    | ((with_reducible refine AR.ok ?_ ?_); exact ⟨by first | omega | (dsimp only; omega), by first | omega | (dsimp only; omega)⟩)
    | (with_reducible refine AR.wr ?_)
    | ((with_reducible intro w3 e3); try have z3 := cutLe e3)
    | ((with_reducible intro h3); have h4 := Nat.le_of_lt h3; clear h4)))
  all_goals
    intro hx
    exact ⟨_, rfl, hx, _, rfl⟩
theorem Len_c (n : Int) (w : World) (h : 0 ≤ n ∧ n ≤ 12) : Calls Tryz.prog 71 #[.int .u64 n] w fun e w' => ∃ v, e = .returned v ∧ E0 w w' ∧ ∃ r : Int, v = .int .i64 r := by
  refine enterK Non 8 Tryz.func71 rfl rfl rfl fun K hK => ?_
  repeat (any_goals (
    conv => whnf
    first
    | ((with_reducible refine callS (g := 86) ?_ ?_); kernel_rfl; refine ⟨_, Len64_c n _ h, ?_⟩; intro r5 w5 e5 h5; have z6 := cutLe e5; obtain ⟨r, rfl⟩ := h5)
    | ((with_reducible refine BIF.dec ?_ ?_) <;> intro _)
    | ((with_reducible refine BIF.s ?_ ?_) <;> intro _)
    | (with_reducible refine NEXTK.normal ?_)
    | (with_reducible refine NEXTK.ret ?_)
    | (with_reducible refine NEXTK.exit ?_)
    | (with_reducible refine SEQ.plain ?_)
    | (with_reducible refine hK _ _ ?_)
    | ((with_reducible refine RUNL.agg (fun _ => ?_) ?_); (focus kernel_rfl))
    | (with_reducible refine RUNL.run ?_)
    | ((with_reducible refine AR.ok ?_ ?_); exact ⟨by first | omega | (dsimp only; omega), by first | omega | (dsimp only; omega)⟩)
    | (with_reducible refine AR.wr ?_)
    | ((with_reducible intro w3 e3); try have z3 := cutLe e3)
    | ((with_reducible intro h3); have h4 := Nat.le_of_lt h3; clear h4)))
  all_goals
    intro hx
    exact ⟨_, rfl, hx, _, rfl⟩
theorem insSortS_c (cmpv : ByteArray → ByteArray → Int) (lo : Nat) (a : Option Addr) (n c : Nat) (xs : List ByteArray) (f : FuncId) (cap : Array Value) (w : World) (ho : Own w lo 9 1 (.slice a n c) (xs.map encS)) (hn : xs.length = n) (hm : n ≤ 1048577) (hb : hasBody Tryz.prog f = true)
    (hf : ∀ x y : ByteArray, ∀ w', Ext (fun b => (Value.slice a n c).ownBlock = some b) w w' → Calls Tryz.prog f (#[].toList ++ [Value.string x, Value.string y] ++ cap.toList).toArray w' fun e w'' => e = .returned (.int .i64 (cmpv x y)) ∧ E0 w' w'') :
    Calls Tryz.prog 77 #[.slice a n c, .int .i64 0, .int .i64 n, .func (.func f) #[] cap] w fun e w' => ∃ r, e = .returned r ∧ Ext (fun b => (Value.slice a n c).ownBlock = some b) w w' ∧ r = .tuple #[] ∧ Own w' lo 9 1 (.slice a n c) ((isortR (fun x y => decide (cmpv x y < 0)) xs).map encS) := by
  refine enterK (fun b => (Value.slice a n c).ownBlock = some b) 53 Tryz.func77 rfl rfl rfl fun K hK => ?_
  obtain ⟨lt, hlt0⟩ : ∃ lt, lt = (fun x y => decide (cmpv x y < 0)) := ⟨_, rfl⟩
  rw [← hlt0] at hK
  rcases Nat.eq_zero_or_pos n with h0 | h0
  · have hxs : xs = [] := List.eq_nil_of_length_eq_zero (by omega)
    subst hxs h0
    conv => whnf
    repeat (first | ((with_reducible refine NEXTK.normal ?_); conv => whnf) | ((with_reducible refine NEXTK.exit ?_); conv => whnf) | ((with_reducible refine NEXTK.ret ?_); conv => whnf) | ((with_reducible refine SEQ.plain ?_); conv => whnf) | ((with_reducible refine AR.ok ?_ ?_); exact ⟨by omega, by omega⟩; conv => whnf))
    refine LOOP.mk Nat (fun t => [(8, .v (.int .i64 1))]) (fun t wr => Own wr lo 9 1 (.slice a 0 c) (([] : List ByteArray).map encS)) (fun t => 0) 0 rfl ⟨rfl, trivial⟩ ho ?_
    rintro t wr - hown
    repeat (any_goals (
      conv => whnf
      first
      | ((exfalso; omega))
      | ((with_reducible refine BIF.dec ?_ ?_) <;> intro _)
      | ((with_reducible refine BIF.s ?_ ?_) <;> intro _)
      | (with_reducible refine NEXTK.normal ?_)
      | (with_reducible refine NEXTK.ret ?_)
      | (with_reducible refine NEXTK.exit ?_)
      | (with_reducible refine SEQ.plain ?_)
      | (with_reducible refine hK _ _ ?_)
      | ((with_reducible refine RUNL.agg (fun _ => ?_) ?_); (focus kernel_rfl))
      | (with_reducible refine RUNL.run ?_)
      | ((with_reducible refine AR.ok ?_ ?_); exact ⟨by first | omega | (dsimp only; omega), by first | omega | (dsimp only; omega)⟩)
      | (with_reducible refine AR.wr ?_)
      | ((with_reducible intro w3 e3); try have z3 := cutLe e3)
      | ((with_reducible intro h3); have h4 := Nat.le_of_lt h3; clear h4)))
    intro hx
    exact ⟨_, rfl, hx, rfl, hown⟩
  conv => whnf
  repeat (first | ((with_reducible refine NEXTK.normal ?_); conv => whnf) | ((with_reducible refine NEXTK.exit ?_); conv => whnf) | ((with_reducible refine NEXTK.ret ?_); conv => whnf) | ((with_reducible refine SEQ.plain ?_); conv => whnf) | ((with_reducible refine AR.ok ?_ ?_); exact ⟨by omega, by omega⟩; conv => whnf))
  refine LOOP.mk Nat (fun t => [(8, .v (.int .i64 ((t : Int) + 1)))]) (fun t wr => t + 1 ≤ n ∧ Own wr lo 9 1 (.slice a n c) ((isortR lt (xs.take (t + 1)) ++ xs.drop (t + 1)).map encS)) (fun t => n - t) 0 rfl ⟨rfl, trivial⟩ ⟨by omega, ?_⟩ ?_
  · have e : isortR lt (xs.take 1) ++ xs.drop 1 = xs := by
      match xs, hn with
      | x :: r, _ => simp [isortR, insR]
      | [], h => simp at h; omega
    show Own _ lo 9 1 (.slice a n c) ((isortR lt (xs.take 1) ++ xs.drop 1).map encS)
    rw [e]; exact ho
  rintro t wr - ⟨ht, hown⟩
  have hslen := (isortR_all lt xs (t + 1) (by omega)).1
  conv => whnf
  repeat (first | ((with_reducible refine NEXTK.normal ?_); conv => whnf) | ((with_reducible refine NEXTK.exit ?_); conv => whnf) | ((with_reducible refine NEXTK.ret ?_); conv => whnf) | ((with_reducible refine SEQ.plain ?_); conv => whnf) | ((with_reducible refine AR.ok ?_ ?_); exact ⟨by omega, by omega⟩; conv => whnf))
  refine BIF.dec (fun hlt => ?_) (fun hlt => ?_)
  · have htl : t + 1 < xs.length := by omega
    obtain ⟨x, hx⟩ : ∃ x, xs[t + 1]? = some x := ⟨xs[t + 1]'(by omega), by simp⟩
    have hnext := isortR_take lt hx
    obtain ⟨s, hs⟩ : ∃ s, s = isortR lt (xs.take (t + 1)) := ⟨_, rfl⟩
    rw [← hs] at hown hslen hnext
    have hd0 : xs.drop (t + 1) = x :: xs.drop (t + 2) := by
      rw [List.drop_eq_getElem_cons (by omega)]
      congr 1
      exact (List.getElem?_eq_some_iff.1 hx).2
    repeat (any_goals (
      conv => whnf
      first
      | ((with_reducible refine BIF.dec ?_ ?_) <;> intro _)
      | ((with_reducible refine BIF.s ?_ ?_) <;> intro _)
      | (with_reducible refine NEXTK.normal ?_)
      | (with_reducible refine NEXTK.ret ?_)
      | (with_reducible refine NEXTK.exit ?_)
      | (with_reducible refine SEQ.plain ?_)
      | (with_reducible refine hK _ _ ?_)
      | ((with_reducible refine RUNL.agg (fun _ => ?_) ?_); (focus kernel_rfl))
      | (with_reducible refine RUNL.run ?_)
      | ((with_reducible refine AR.ok ?_ ?_); exact ⟨by first | omega | (dsimp only; omega), by first | omega | (dsimp only; omega)⟩)
      | (with_reducible refine AR.wr ?_)
      | ((with_reducible intro w3 e3); try have z3 := cutLe e3)
      | ((with_reducible intro h3); have h4 := Nat.le_of_lt h3; clear h4)))
    conv => whnf
    refine LOOP.mk Nat (fun d => [(9, .v (.int .i64 ((t : Int) + 1 - d)))]) (fun d ws => d ≤ t + 1 ∧ (∀ y ∈ s.drop (t + 1 - d), lt x y = true) ∧ Own ws lo 9 1 (.slice a n c) ((s.take (t + 1 - d) ++ x :: s.drop (t + 1 - d) ++ xs.drop (t + 2)).map encS)) (fun d => t + 1 - d) 0 rfl ⟨by simp [lk, Nat.beq], trivial⟩ ⟨by omega, ?_, ?_⟩ ?_
    · intro y hy
      rw [List.drop_eq_nil_of_le (by omega)] at hy
      cases hy
    · rw [show t + 1 - 0 = s.length from by omega, List.take_length, List.drop_length]
      rw [hd0] at hown
      simpa using hown
    rintro d ws - ⟨hd, hgt, hown1⟩
    obtain ⟨q, hq⟩ : ∃ q, q = t + 1 - d := ⟨_, rfl⟩
    rw [← hq] at hgt hown1
    have hqi : ((t : Int) + 1 - d) = q := by omega
    obtain ⟨ls, hls⟩ : ∃ ls, ls = s.take q ++ x :: s.drop q ++ xs.drop (t + 2) := ⟨_, rfl⟩
    rw [← hls] at hown1
    have hlen := hown1.row.2
    rw [List.length_map] at hlen
    have his := hown1.row.1.isSome (by simp; omega)
    have hxq : ls[q]? = some x := by
      rw [hls, List.append_assoc, List.getElem?_append_right (by simp; omega)]
      have : q - (s.take q).length = 0 := by simp; omega
      rw [this]; rfl
    rcases Nat.eq_zero_or_pos q with hq0 | hq0
    · have hfin : insR lt s x = s.take q ++ x :: s.drop q := insR_at lt q (by omega) hgt (fun y h => by omega)
      repeat (any_goals (
        conv => whnf
        first
        | ((with_reducible refine DRAW.quietE (id := 4) ?_ ?_ ?_); kernel_rfl; kernel_rfl)
        | ((exfalso; omega))
        | ((with_reducible refine BIF.dec ?_ ?_) <;> intro _)
        | ((with_reducible refine BIF.s ?_ ?_) <;> intro _)
        | (with_reducible refine NEXTK.normal ?_)
        | (with_reducible refine NEXTK.ret ?_)
        | (with_reducible refine NEXTK.exit ?_)
        | (with_reducible refine SEQ.plain ?_)
        | (with_reducible refine hK _ _ ?_)
        | ((with_reducible refine RUNL.agg (fun _ => ?_) ?_); (focus kernel_rfl))
        | (with_reducible refine RUNL.run ?_)
        | ((with_reducible refine AR.ok ?_ ?_); exact ⟨by first | omega | (dsimp only; omega), by first | omega | (dsimp only; omega)⟩)
        | (with_reducible refine AR.wr ?_)
        | ((with_reducible intro w3 e3); try have z3 := cutLe e3)
        | ((with_reducible intro h3); have h4 := Nat.le_of_lt h3; clear h4)))
      refine ⟨t + 1, rfl, ⟨?_, trivial⟩, rfl, rfl, ⟨by omega, ?_⟩, by omega⟩
      · simp [lk, Nat.beq]
      · rw [hnext, hfin, ← hls]; exact hown1.e0 e3
    · obtain ⟨z, hz⟩ : ∃ z, s[q - 1]? = some z := ⟨s[q - 1]'(by omega), by simp⟩
      have hzq : ls[q - 1]? = some z := by
        rw [hls, List.append_assoc, List.getElem?_append_left (by simp; omega), List.getElem?_take, if_pos (by omega), hz]
      by_cases hxz : cmpv x z < 0
      · have hltx : lt x z = true := by rw [hlt0]; exact decide_eq_true hxz
        repeat (any_goals (
          conv => whnf
          first
          | ((with_reducible refine DRAW.plan (id := 6) (.one 0 (.one 1 (.one 2 (.one 3 (.one 4 (.one 5 (.one 6 (.one 7 (.one 8 (.one 10 (.one 11 (.one 12 (.start (.alt 9 (.start (.alt 13 (.one 14 (.start (.alt 15 (.one 16 (.start (.alt 17 .done .stop))) .stop))) .stop)) (.alt 13 (.start (.alt 9 (.one 14 (.start (.alt 15 (.one 16 (.start (.alt 17 .done .stop))) .stop))) .stop)) .stop))))))))))))))) ?_ ?_ ?_ ?_); kernel_rfl; kernel_rfl; kernel_rfl)
          | ((with_reducible refine DRAW.quietE (id := 4) ?_ ?_ ?_); kernel_rfl; kernel_rfl)
          | ((exfalso; omega))
          | ((with_reducible refine OBL.mk ?_ (fun _ => ?_)); exact ⟨by omega, by omega, his⟩)
          | ((with_reducible refine ELD.atNow (enc := encS) (xs := ls) q hown1.row.1 ?_ ?_ (fun x' hx' => ?_)); omega; omega; obtain rfl : x = x' := by (rw [hxq] at hx'; exact Option.some.inj hx'))
          | ((with_reducible refine ELD.atNow (enc := encS) (xs := ls) (q - 1) hown1.row.1 ?_ ?_ (fun x' hx' => ?_)); omega; omega; obtain rfl : z = x' := by (rw [hzq] at hx'; exact Option.some.inj hx'))
          | ((with_reducible refine callQX (g := f) ?_ ?_); exact hb; refine ⟨_, fun w' _ hX => hf x z w' hX, ?_⟩)
          | ((with_reducible intro w3 e3); have z3 := cutLe e3; replace hown1 := hown1.e0 e3)
          | ((with_reducible refine DRAW.plan (id := 6) (.one 0 (.one 1 (.one 2 (.one 3 (.one 4 (.one 5 (.one 6 (.one 7 (.one 8 (.one 10 (.one 11 (.one 12 (.start (.alt 9 (.start (.alt 13 (.one 14 (.start (.alt 15 (.one 16 (.start (.alt 17 .done .stop))) .stop))) .stop)) (.alt 13 (.start (.alt 9 (.one 14 (.start (.alt 15 (.one 16 (.start (.alt 17 .done .stop))) .stop))) .stop)) .stop))))))))))))))) ?_ ?_ ?_ ?_); kernel_rfl; kernel_rfl; kernel_rfl)
          | (with_reducible refine And.intro ?_ ?_)
          | (exact True.intro)
          | ((with_reducible refine BIF.dec ?_ ?_) <;> intro _)
          | ((with_reducible refine BIF.s ?_ ?_) <;> intro _)
          | (with_reducible refine NEXTK.normal ?_)
          | (with_reducible refine NEXTK.ret ?_)
          | (with_reducible refine NEXTK.exit ?_)
          | (with_reducible refine SEQ.plain ?_)
          | (with_reducible refine hK _ _ ?_)
          | ((with_reducible refine RUNL.agg (fun _ => ?_) ?_); (focus kernel_rfl))
          | (with_reducible refine RUNL.run ?_)
          | ((with_reducible refine AR.ok ?_ ?_); exact ⟨by first | omega | (dsimp only; omega), by first | omega | (dsimp only; omega)⟩)
          | (with_reducible refine AR.wr ?_)
          | ((with_reducible intro w3 e3); try have z3 := cutLe e3)
          | ((with_reducible intro h3); have h4 := Nat.le_of_lt h3; clear h4)))
        all_goals
          conv => whnf
          refine stM (i := _) hown1 rfl rfl rfl q hqi.symm (by rw [List.getElem?_map, hxq]; rfl) (by decide) (fun _ h => h) trivial (fun w6 e6 o6 => ?_)
          replace o6 : Own w6 lo 9 1 (.slice a n c) ((ls.set q z).map encS) := by rw [List.map_set]; exact o6
          have hzq2 : (ls.set q z)[q - 1]? = some z := by rw [List.getElem?_set_ne (by omega), hzq]
          repeat (any_goals (
            conv => whnf
            first
            | (with_reducible refine And.intro ?_ ?_)
            | (exact True.intro)
            | ((with_reducible refine OBL.mk ?_ (fun _ => ?_)); exact ⟨by omega, by omega, his⟩)
            | ((with_reducible refine BIF.dec ?_ ?_) <;> intro _)
            | ((with_reducible refine BIF.s ?_ ?_) <;> intro _)
            | (with_reducible refine NEXTK.normal ?_)
            | (with_reducible refine NEXTK.ret ?_)
            | (with_reducible refine NEXTK.exit ?_)
            | (with_reducible refine SEQ.plain ?_)
            | (with_reducible refine hK _ _ ?_)
            | ((with_reducible refine RUNL.agg (fun _ => ?_) ?_); (focus kernel_rfl))
            | (with_reducible refine RUNL.run ?_)
            | ((with_reducible refine AR.ok ?_ ?_); exact ⟨by first | omega | (dsimp only; omega), by first | omega | (dsimp only; omega)⟩)
            | (with_reducible refine AR.wr ?_)
            | ((with_reducible intro w3 e3); try have z3 := cutLe e3)
            | ((with_reducible intro h3); have h4 := Nat.le_of_lt h3; clear h4)))
          conv => whnf
          refine stM (i := _) o6 rfl rfl rfl (q - 1) (by omega) (by rw [List.getElem?_map, hzq2]; rfl) (by decide) (fun _ h => h) trivial (fun w7 e7 o7 => ?_)
          replace o7 : Own w7 lo 9 1 (.slice a n c) (((ls.set q z).set (q - 1) x).map encS) := by rw [List.map_set (l := ls.set q z)]; exact o7
          repeat (any_goals (
            conv => whnf
            first
            | (with_reducible refine And.intro ?_ ?_)
            | (exact True.intro)
            | ((with_reducible refine BIF.dec ?_ ?_) <;> intro _)
            | ((with_reducible refine BIF.s ?_ ?_) <;> intro _)
            | (with_reducible refine NEXTK.normal ?_)
            | (with_reducible refine NEXTK.ret ?_)
            | (with_reducible refine NEXTK.exit ?_)
            | (with_reducible refine SEQ.plain ?_)
            | (with_reducible refine hK _ _ ?_)
            | ((with_reducible refine RUNL.agg (fun _ => ?_) ?_); (focus kernel_rfl))
            | (with_reducible refine RUNL.run ?_)
            | ((with_reducible refine AR.ok ?_ ?_); exact ⟨by first | omega | (dsimp only; omega), by first | omega | (dsimp only; omega)⟩)
            | (with_reducible refine AR.wr ?_)
            | ((with_reducible intro w3 e3); try have z3 := cutLe e3)
            | ((with_reducible intro h3); have h4 := Nat.le_of_lt h3; clear h4)))
          refine ⟨d + 1, rfl, ⟨?_, trivial⟩, rfl, rfl, ⟨by omega, ?_, ?_⟩, by omega⟩
          · simp [lk, Nat.beq]; omega
          · rw [show t + 1 - (d + 1) = q - 1 from by omega, List.drop_eq_getElem_cons (by omega)]
            intro y hy
            rcases List.mem_cons.1 hy with rfl | hy
            · rw [(List.getElem?_eq_some_iff.1 hz).2]; exact hltx
            · rw [show q - 1 + 1 = q from by omega] at hy
              exact hgt y hy
          · have e8 : (ls.set q z).set (q - 1) x = s.take (q - 1) ++ x :: s.drop (q - 1) ++ xs.drop (t + 2) := by rw [hls]; exact swap_ins hq0 hz
            rw [show t + 1 - (d + 1) = q - 1 from by omega, ← e8]; exact o7
      · have hltx : lt x z = false := by rw [hlt0]; exact decide_eq_false hxz
        have hfin : insR lt s x = s.take q ++ x :: s.drop q := insR_at lt q (by omega) hgt (fun y _ hy => by rw [hz] at hy; cases hy; exact hltx)
        repeat (any_goals (
          conv => whnf
          first
          | ((with_reducible refine DRAW.quietE (id := 4) ?_ ?_ ?_); kernel_rfl; kernel_rfl)
          | ((exfalso; omega))
          | ((with_reducible refine OBL.mk ?_ (fun _ => ?_)); exact ⟨by omega, by omega, his⟩)
          | ((with_reducible refine ELD.atNow (enc := encS) (xs := ls) q hown1.row.1 ?_ ?_ (fun x' hx' => ?_)); omega; omega; obtain rfl : x = x' := by (rw [hxq] at hx'; exact Option.some.inj hx'))
          | ((with_reducible refine ELD.atNow (enc := encS) (xs := ls) (q - 1) hown1.row.1 ?_ ?_ (fun x' hx' => ?_)); omega; omega; obtain rfl : z = x' := by (rw [hzq] at hx'; exact Option.some.inj hx'))
          | ((with_reducible refine callQX (g := f) ?_ ?_); exact hb; refine ⟨_, fun w' _ hX => hf x z w' hX, ?_⟩)
          | ((with_reducible intro w3 e3); have z3 := cutLe e3; replace hown1 := hown1.e0 e3)
          | ((with_reducible refine BIF.dec ?_ ?_) <;> intro _)
          | ((with_reducible refine BIF.s ?_ ?_) <;> intro _)
          | (with_reducible refine NEXTK.normal ?_)
          | (with_reducible refine NEXTK.ret ?_)
          | (with_reducible refine NEXTK.exit ?_)
          | (with_reducible refine SEQ.plain ?_)
          | (with_reducible refine hK _ _ ?_)
          | ((with_reducible refine RUNL.agg (fun _ => ?_) ?_); (focus kernel_rfl))
          | (with_reducible refine RUNL.run ?_)
          | ((with_reducible refine AR.ok ?_ ?_); exact ⟨by first | omega | (dsimp only; omega), by first | omega | (dsimp only; omega)⟩)
          | (with_reducible refine AR.wr ?_)
          | ((with_reducible intro w3 e3); try have z3 := cutLe e3)
          | ((with_reducible intro h3); have h4 := Nat.le_of_lt h3; clear h4)))
        refine ⟨t + 1, rfl, ⟨?_, trivial⟩, rfl, rfl, ⟨by omega, ?_⟩, by omega⟩
        · simp [lk, Nat.beq]
        · rw [hnext, hfin, ← hls]; exact hown1
  · have htn : t + 1 = n := by omega
    repeat (any_goals (
      conv => whnf
      first
      | ((with_reducible refine BIF.dec ?_ ?_) <;> intro _)
      | ((with_reducible refine BIF.s ?_ ?_) <;> intro _)
      | (with_reducible refine NEXTK.normal ?_)
      | (with_reducible refine NEXTK.ret ?_)
      | (with_reducible refine NEXTK.exit ?_)
      | (with_reducible refine SEQ.plain ?_)
      | (with_reducible refine hK _ _ ?_)
      | ((with_reducible refine RUNL.agg (fun _ => ?_) ?_); (focus kernel_rfl))
      | (with_reducible refine RUNL.run ?_)
      | ((with_reducible refine AR.ok ?_ ?_); exact ⟨by first | omega | (dsimp only; omega), by first | omega | (dsimp only; omega)⟩)
      | (with_reducible refine AR.wr ?_)
      | ((with_reducible intro w3 e3); try have z3 := cutLe e3)
      | ((with_reducible intro h3); have h4 := Nat.le_of_lt h3; clear h4)))
    intro hx
    rw [List.take_of_length_le (by omega), List.drop_eq_nil_of_le (by omega), List.append_nil] at hown
    exact ⟨_, rfl, hx, rfl, hown⟩
theorem pdqS_c (cmpv : ByteArray → ByteArray → Int) (lo : Nat) (a : Option Addr) (n c : Nat) (xs : List ByteArray) (f : FuncId) (cap : Array Value) (r : Int) (w : World) (ho : Own w lo 9 1 (.slice a n c) (xs.map encS)) (hn : xs.length = n) (hm : n ≤ 12) (hb : hasBody Tryz.prog f = true)
    (hf : ∀ x y : ByteArray, ∀ w', Ext (fun b => (Value.slice a n c).ownBlock = some b) w w' → Calls Tryz.prog f (#[].toList ++ [Value.string x, Value.string y] ++ cap.toList).toArray w' fun e w'' => e = .returned (.int .i64 (cmpv x y)) ∧ E0 w' w'') :
    Calls Tryz.prog 70 #[.slice a n c, .int .i64 0, .int .i64 n, .int .i64 r, .func (.func f) #[] cap] w fun e w' => ∃ r, e = .returned r ∧ Ext (fun b => (Value.slice a n c).ownBlock = some b) w w' ∧ r = .tuple #[] ∧ Own w' lo 9 1 (.slice a n c) ((isortR (fun x y => decide (cmpv x y < 0)) xs).map encS) := by
  refine enterK (fun b => (Value.slice a n c).ownBlock = some b) 148 Tryz.func70 rfl rfl rfl fun K hK => ?_
  repeat (any_goals (
    conv => whnf
    first
    | ((with_reducible refine BIF.dec ?_ ?_) <;> intro _)
    | ((with_reducible refine BIF.s ?_ ?_) <;> intro _)
    | (with_reducible refine NEXTK.normal ?_)
    | (with_reducible refine NEXTK.ret ?_)
    | (with_reducible refine NEXTK.exit ?_)
    | (with_reducible refine SEQ.plain ?_)
    | (with_reducible refine hK _ _ ?_)
    | ((with_reducible refine RUNL.agg (fun _ => ?_) ?_); (focus kernel_rfl))
    | (with_reducible refine RUNL.run ?_)
    | ((with_reducible refine AR.ok ?_ ?_); exact ⟨by first | omega | (dsimp only; omega), by first | omega | (dsimp only; omega)⟩)
    | (with_reducible refine AR.wr ?_)
    | ((with_reducible intro w3 e3); try have z3 := cutLe e3)
    | ((with_reducible intro h3); have h4 := Nat.le_of_lt h3; clear h4)))
  conv => whnf
  refine LOOP.mk Unit (fun _ => [(1, .v (.int .i64 0)), (2, .v (.int .i64 n))]) (fun _ wr => Own wr lo 9 1 (.slice a n c) (xs.map encS)) (fun _ => 0) () rfl ⟨rfl, rfl, trivial⟩ (by repeat (first | exact ho | refine Own.e0 ?_ (by assumption))) ?_
  rintro ⟨⟩ wr hXr hown
  repeat (any_goals (
    conv => whnf
    first
    | ((exfalso; omega))
    | ((with_reducible refine BIF.dec ?_ ?_) <;> intro _)
    | ((with_reducible refine BIF.s ?_ ?_) <;> intro _)
    | (with_reducible refine NEXTK.normal ?_)
    | (with_reducible refine NEXTK.ret ?_)
    | (with_reducible refine NEXTK.exit ?_)
    | (with_reducible refine SEQ.plain ?_)
    | (with_reducible refine hK _ _ ?_)
    | ((with_reducible refine RUNL.agg (fun _ => ?_) ?_); (focus kernel_rfl))
    | (with_reducible refine RUNL.run ?_)
    | ((with_reducible refine AR.ok ?_ ?_); exact ⟨by first | omega | (dsimp only; omega), by first | omega | (dsimp only; omega)⟩)
    | (with_reducible refine AR.wr ?_)
    | ((with_reducible intro w3 e3); try have z3 := cutLe e3)
    | ((with_reducible intro h3); have h4 := Nat.le_of_lt h3; clear h4)))
  conv => whnf
  refine callM (g := 77) (by kernel_rfl) ⟨_, _, trivial, fun b hb h => h, insSortS_c cmpv _ _ _ _ xs f cap _ hown hn (by omega) hb (fun x y w' hX => hf x y w' (hXr.trans' hX (fun _ _ h => h))), fun r w6 e6 h => ?_⟩
  obtain ⟨rfl, o6⟩ := h
  repeat (any_goals (
    conv => whnf
    first
    | ((with_reducible refine BIF.dec ?_ ?_) <;> intro _)
    | ((with_reducible refine BIF.s ?_ ?_) <;> intro _)
    | (with_reducible refine NEXTK.normal ?_)
    | (with_reducible refine NEXTK.ret ?_)
    | (with_reducible refine NEXTK.exit ?_)
    | (with_reducible refine SEQ.plain ?_)
    | (with_reducible refine hK _ _ ?_)
    | ((with_reducible refine RUNL.agg (fun _ => ?_) ?_); (focus kernel_rfl))
    | (with_reducible refine RUNL.run ?_)
    | ((with_reducible refine AR.ok ?_ ?_); exact ⟨by first | omega | (dsimp only; omega), by first | omega | (dsimp only; omega)⟩)
    | (with_reducible refine AR.wr ?_)
    | ((with_reducible intro w3 e3); try have z3 := cutLe e3)
    | ((with_reducible intro h3); have h4 := Nat.le_of_lt h3; clear h4)))
  intro hx
  exact ⟨_, rfl, hx, rfl, o6⟩
theorem SortFuncS_c (cmpv : ByteArray → ByteArray → Int) (lo : Nat) (a : Option Addr) (n c : Nat) (xs : List ByteArray) (f : FuncId) (cap : Array Value) (w : World) (ho : Own w lo 9 1 (.slice a n c) (xs.map encS)) (hn : xs.length = n) (hm : n ≤ 12) (hb : hasBody Tryz.prog f = true)
    (hf : ∀ x y : ByteArray, ∀ w', Ext (fun b => (Value.slice a n c).ownBlock = some b) w w' → Calls Tryz.prog f (#[].toList ++ [Value.string x, Value.string y] ++ cap.toList).toArray w' fun e w'' => e = .returned (.int .i64 (cmpv x y)) ∧ E0 w' w'') :
    Calls Tryz.prog 41 #[.slice a n c, .func (.func f) #[] cap] w fun e w' => ∃ r, e = .returned r ∧ Ext (fun b => (Value.slice a n c).ownBlock = some b) w w' ∧ r = .tuple #[] ∧ Own w' lo 9 1 (.slice a n c) ((isortR (fun x y => decide (cmpv x y < 0)) xs).map encS) := by
  refine enterK (fun b => (Value.slice a n c).ownBlock = some b) 14 Tryz.func41 rfl rfl rfl fun K hK => ?_
  repeat (any_goals (
    conv => whnf
    first
    | ((with_reducible refine RUN.int (kd := .u64) (z := IntKind.u64.wrap n) (fun _ => ?_) (wrapU64_in (by omega) (by omega)) ?_); (focus kernel_rfl))
    | ((with_reducible refine callS (g := 71) ?_ ?_); kernel_rfl; refine ⟨_, Len_c n _ (by omega), ?_⟩; intro r5 w5 e5 h5; have z6 := cutLe e5; obtain ⟨r, rfl⟩ := h5; replace ho := ho.e0 e5)
    | ((with_reducible refine callMX (g := 70) ?_ ?_); kernel_rfl; refine ⟨_, _, trivial, fun b hb h => h, fun hX => pdqS_c cmpv _ _ _ _ xs f cap _ _ ho hn (by omega) hb (fun x y w' hX2 => hf x y w' (hX.trans' hX2 (fun _ _ h => h))), ?_⟩; intro r6 w6 e6 h6; obtain ⟨rfl, o6⟩ := h6)
    | ((with_reducible refine BIF.dec ?_ ?_) <;> intro _)
    | ((with_reducible refine BIF.s ?_ ?_) <;> intro _)
    | (with_reducible refine NEXTK.normal ?_)
    | (with_reducible refine NEXTK.ret ?_)
    | (with_reducible refine NEXTK.exit ?_)
    | (with_reducible refine SEQ.plain ?_)
    | (with_reducible refine hK _ _ ?_)
    | ((with_reducible refine RUNL.agg (fun _ => ?_) ?_); (focus kernel_rfl))
    | (with_reducible refine RUNL.run ?_)
    | ((with_reducible refine AR.ok ?_ ?_); exact ⟨by first | omega | (dsimp only; omega), by first | omega | (dsimp only; omega)⟩)
    | (with_reducible refine AR.wr ?_)
    | ((with_reducible intro w3 e3); try have z3 := cutLe e3)
    | ((with_reducible intro h3); have h4 := Nat.le_of_lt h3; clear h4)))
  intro hx
  exact ⟨_, rfl, hx, rfl, o6⟩

end Go.Proofs.YtohnoccmaeegdaaGreatDoor

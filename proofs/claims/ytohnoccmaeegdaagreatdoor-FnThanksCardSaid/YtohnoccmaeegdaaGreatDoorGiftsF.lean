/- Equal neighbours left out. -/
import Derived.Test.YtohnoccmaeegdaaGreatDoorRows
import Derived.Test.YtohnoccmaeegdaaGreatDoorGiftsE
namespace Go.Proofs.YtohnoccmaeegdaaGreatDoor
open Go Go.X Go.Proofs Go.ChangeShapes Go.WideShapes Go.ChangeAt Go.RowKit
open Go.ChangeMaps (open_string shut_string)
set_option maxHeartbeats 1000000
set_option maxRecDepth 20000
set_option linter.unusedVariables false
set_option linter.unusedSimpArgs false
theorem CompactS_c (lo : Nat) (a : Option Addr) (n c : Nat) (xs : List ByteArray) (w : World) (ho : Own w lo 9 1 (.slice a n c) (xs.map encS)) (hn : xs.length = n) (hm : n ≤ 1048577) (hc : n ≤ c ∧ c < 9223372036854775808) :
    Calls Tryz.prog 46 #[.slice a n c] w fun e w' => ∃ r, e = .returned r ∧ Ext (fun b => (Value.slice a n c).ownBlock = some b) w w' ∧ Own w' lo 9 1 r ((compU xs n).map encS) := by
  refine enterK (fun b => (Value.slice a n c).ownBlock = some b) 61 Tryz.func46 rfl rfl rfl fun K hK => ?_
  by_cases h2 : n < 2
  · have hsame : compU xs n = xs := by
      rw [compU_same (by omega) (fun j x h0 h1 => by omega), List.take_of_length_le (by omega)]
    repeat (any_goals (
      conv => whnf
      first
      | ((with_reducible refine BIF.dec ?_ ?_) <;> intro _)
      | ((exfalso; omega))
      | ((with_reducible refine BIF.dec ?_ ?_) <;> intro _)
      | ((with_reducible refine BIF.s ?_ ?_) <;> intro _)
      | (with_reducible refine NEXTK.normal ?_)
      | (with_reducible refine NEXTK.ret ?_)
      | (with_reducible refine NEXTK.exit ?_)
      | (with_reducible refine SEQ.plain ?_)
      | (with_reducible refine hK _ _ ?_)
      | ((with_reducible refine RUNL.agg (fun _ => ?_) ?_); (focus kernel_rfl))
      | (with_reducible refine RUNL.run ?_)
      | ((with_reducible refine AR.ok ?_ ?_); exact ⟨by first | omega | (dsimp only; omega), by first | omega | (dsimp only; omega)⟩)
      | (with_reducible refine AR.wr ?_)
      | ((with_reducible intro w3 e3); try have z3 := cutLe e3)
      | ((with_reducible intro h3); have h4 := Nat.le_of_lt h3; clear h4)))
    intro hx
    rw [hsame]
    exact ⟨_, rfl, hx, ho⟩
  obtain ⟨g, rfl⟩ := ho.base (by omega)
  repeat (any_goals (
    conv => whnf
    first
    | ((with_reducible refine BIF.dec ?_ ?_) <;> intro _)
    | ((exfalso; omega))
    | ((with_reducible refine BIF.dec ?_ ?_) <;> intro _)
    | ((with_reducible refine BIF.s ?_ ?_) <;> intro _)
    | (with_reducible refine NEXTK.normal ?_)
    | (with_reducible refine NEXTK.ret ?_)
    | (with_reducible refine NEXTK.exit ?_)
    | (with_reducible refine SEQ.plain ?_)
    | (with_reducible refine hK _ _ ?_)
    | ((with_reducible refine RUNL.agg (fun _ => ?_) ?_); (focus kernel_rfl))
    | (with_reducible refine RUNL.run ?_)
    | ((with_reducible refine AR.ok ?_ ?_); exact ⟨by first | omega | (dsimp only; omega), by first | omega | (dsimp only; omega)⟩)
    | (with_reducible refine AR.wr ?_)
    | ((with_reducible intro w3 e3); try have z3 := cutLe e3)
    | ((with_reducible intro h3); have h4 := Nat.le_of_lt h3; clear h4)))
  conv => whnf
  refine LOOP.mk Nat (fun k => [(3, .v (.int .i64 ((k : Int) + 1)))]) (fun k wr => k + 1 ≤ n ∧ (∀ j x, 0 < j → j < k + 1 → xs[j]? = some x → ¬ xs[j - 1]? = some x) ∧ Own wr lo 9 1 (.slice (some ⟨g, 0, none⟩) n c) (xs.map encS)) (fun k => n - k) 0 rfl ⟨rfl, trivial⟩ ⟨by omega, fun j x h0 h1 => by omega, ho⟩ ?_
  rintro k wr - ⟨hk, hne, hown⟩
  have his := hown.row.1.isSome (by simp; omega)
  conv => whnf
  repeat (first | ((with_reducible refine NEXTK.normal ?_); conv => whnf) | ((with_reducible refine NEXTK.exit ?_); conv => whnf) | ((with_reducible refine NEXTK.ret ?_); conv => whnf) | ((with_reducible refine SEQ.plain ?_); conv => whnf) | ((with_reducible refine AR.ok ?_ ?_); exact ⟨by omega, by omega⟩; conv => whnf))
  refine BIF.dec (fun hlt => ?_) (fun hlt => ?_)
  · obtain ⟨x, hx⟩ : ∃ x, xs[k + 1]? = some x := ⟨xs[k + 1]'(by omega), by simp⟩
    obtain ⟨z, hz⟩ : ∃ z, xs[k]? = some z := ⟨xs[k]'(by omega), by simp⟩
    repeat (any_goals (
      conv => whnf
      first
      | ((with_reducible refine DRAW.quietE ?_ ?_ ?_); kernel_rfl; kernel_rfl)
      | ((with_reducible refine OBL.mk ?_ (fun _ => ?_)); exact ⟨by first | omega | (dsimp only; omega), by first | omega | (dsimp only; omega), his⟩)
      | ((with_reducible refine ELD.atNow (enc := encS) (xs := xs) (k + 1) hown.row.1 ?_ ?_ (fun x' hx' => ?_)); (first | rfl | omega); omega; obtain rfl : x = x' := by (rw [hx] at hx'; exact Option.some.inj hx'))
      | ((with_reducible refine ELD.atNow (enc := encS) (xs := xs) (k) hown.row.1 ?_ ?_ (fun x' hx' => ?_)); (first | rfl | omega); omega; obtain rfl : z = x' := by (rw [hz] at hx'; exact Option.some.inj hx'))
      | ((with_reducible intro w3 e3); have z3 := cutLe e3; replace hown := hown.e0 e3)
      | ((with_reducible refine BIF.seq ?_ ?_) <;> intro hxz)
      | ((with_reducible refine OBL.mk ?_ (fun _ => ?_)); omega)
      | ((with_reducible refine BIF.dec ?_ ?_) <;> intro _)
      | ((with_reducible refine BIF.s ?_ ?_) <;> intro _)
      | (with_reducible refine NEXTK.normal ?_)
      | (with_reducible refine NEXTK.ret ?_)
      | (with_reducible refine NEXTK.exit ?_)
      | (with_reducible refine SEQ.plain ?_)
      | (with_reducible refine hK _ _ ?_)
      | ((with_reducible refine RUNL.agg (fun _ => ?_) ?_); (focus kernel_rfl))
      | (with_reducible refine RUNL.run ?_)
      | ((with_reducible refine AR.ok ?_ ?_); exact ⟨by first | omega | (dsimp only; omega), by first | omega | (dsimp only; omega)⟩)
      | (with_reducible refine AR.wr ?_)
      | ((with_reducible intro w3 e3); try have z3 := cutLe e3)
      | ((with_reducible intro h3); have h4 := Nat.le_of_lt h3; clear h4)))
    · conv => whnf
      obtain ⟨p, hp⟩ : ∃ p, p = k + 1 := ⟨_, rfl⟩
      have hpi : ((k : Int) + 1) = p := by omega
      have hfk : compU xs (p + 1) = xs.take p := by
        rw [hp, compU_at hx, if_pos ⟨by omega, by rw [Nat.add_sub_cancel, hz, hxz]⟩, List.append_nil]
        exact compU_same (by omega) hne
      refine LOOP.mk (Nat × Nat × List ByteArray) (fun t => [(5, .v (.int .i64 ((t.1 : Int) - p))), (3, .v (.int .i64 (t.2.1 : Int)))])
        (fun t wr => (p < t.1 ∧ t.1 ≤ n) ∧ t.2.1 + 1 ≤ t.1 ∧ t.2.2.length = n ∧ t.2.2.take t.2.1 = compU xs t.1 ∧ t.2.2.drop (t.1 - 1) = xs.drop (t.1 - 1) ∧ Own wr lo 9 1 (.slice (some ⟨g, 0, none⟩) n c) (t.2.2.map encS)) (fun t => n - t.1) (p + 1, p, xs) rfl ⟨?_, ?_, trivial⟩ ⟨by simp only; omega, by simp only; omega, hn, hfk.symm, rfl, hown⟩ ?_
      · simp [lk, Nat.beq]; omega
      · simp [lk, Nat.beq]; omega
      clear hown
      rintro ⟨j, i, ls⟩ ws - ⟨⟨hpj, hjn⟩, hij, hln, htk, hdr, hown⟩
      simp only at hpj hjn hij hln htk hdr hown
      have htp : ((k : Int) + 1).toNat = p := by omega
      have hsub := hown.row.1.sub ((k : Int) + 1) (n : Int) (c : Int) (by omega)
      have his2 := hown.row.1.isSome (by simp; omega)
      dsimp only
      by_cases hjl : j < n
      · obtain ⟨y, hy⟩ : ∃ y, xs[j]? = some y := ⟨xs[j]'(by omega), by simp⟩
        obtain ⟨u, hu⟩ : ∃ u, xs[j - 1]? = some u := ⟨xs[j - 1]'(by omega), by simp⟩
        have back : ∀ q, j - 1 ≤ q → ls[q]? = xs[q]? := fun q hq => by
          have e1 : ls[q]? = (ls.drop (j - 1))[q - (j - 1)]? := by rw [List.getElem?_drop]; congr 1; omega
          have e2 : xs[q]? = (xs.drop (j - 1))[q - (j - 1)]? := by rw [List.getElem?_drop]; congr 1; omega
          rw [e1, hdr, ← e2]
        have hsy : ((ls.drop ((k : Int) + 1).toNat).take ((n : Int).toNat - ((k : Int) + 1).toNat))[j - p]? = some y := by
          rw [List.getElem?_take, if_pos (by omega), List.getElem?_drop]
          rw [htp, show p + (j - p) = j from by omega, back j (by omega), hy]
        have hsu : ((ls.drop ((k : Int) + 1).toNat).take ((n : Int).toNat - ((k : Int) + 1).toNat))[j - p - 1]? = some u := by
          rw [List.getElem?_take, if_pos (by omega), List.getElem?_drop]
          rw [htp, show p + (j - p - 1) = j - 1 from by omega, back (j - 1) (by omega), hu]
        have hsl : ((ls.drop ((k : Int) + 1).toNat).take ((n : Int).toNat - ((k : Int) + 1).toNat)).length = n - p := by simp; omega
        obtain ⟨v, hv⟩ : ∃ v, ls[i]? = some v := ⟨ls[i]'(by omega), by simp⟩
        have hcu := compU_at hy
        have hdr' : ls.drop j = xs.drop j := by
          have e : j = (j - 1) + 1 := by omega
          rw [e, ← List.drop_drop, ← List.drop_drop (l := xs), hdr]
        repeat (any_goals (
          conv => whnf
          first
          | ((with_reducible refine BIF.dec ?_ ?_) <;> intro _)
          | ((exfalso; omega))
          | ((with_reducible refine DRAW.quietE ?_ ?_ ?_); kernel_rfl; kernel_rfl)
          | ((with_reducible refine OBL.mk ?_ (fun _ => ?_)); exact ⟨by first | omega | (dsimp only; omega), by first | omega | (dsimp only; omega), his2⟩)
          | ((with_reducible refine OBL.mk ?_ (fun _ => ?_)); exact ⟨by omega, by omega, by split <;> rfl⟩)
          | ((with_reducible refine ELD.atNow (enc := encS) (xs := (ls.drop ((k : Int) + 1).toNat).take ((n : Int).toNat - ((k : Int) + 1).toNat)) (j - p) hsub ?_ ?_ (fun x' hx' => ?_)); (focus omega); (focus (rw [hsl]; omega)); obtain rfl : y = x' := (by rw [hsy] at hx'; exact Option.some.inj hx'))
          | ((with_reducible refine ELD.atNow (enc := encS) (xs := (ls.drop ((k : Int) + 1).toNat).take ((n : Int).toNat - ((k : Int) + 1).toNat)) (j - p - 1) hsub ?_ ?_ (fun x' hx' => ?_)); (focus omega); (focus (rw [hsl]; omega)); obtain rfl : u = x' := (by rw [hsu] at hx'; exact Option.some.inj hx'))
          | ((with_reducible intro w3 e3); have z3 := cutLe e3; replace hown := hown.e0 e3; replace hsub := hsub.e0 e3)
          | ((with_reducible refine BIF.sne (fun hyu => ?_) (fun hyu => ?_)))
          | ((with_reducible refine BIF.dec ?_ ?_) <;> intro _)
          | ((with_reducible refine BIF.s ?_ ?_) <;> intro _)
          | (with_reducible refine NEXTK.normal ?_)
          | (with_reducible refine NEXTK.ret ?_)
          | (with_reducible refine NEXTK.exit ?_)
          | (with_reducible refine SEQ.plain ?_)
          | (with_reducible refine hK _ _ ?_)
          | ((with_reducible refine RUNL.agg (fun _ => ?_) ?_); (focus kernel_rfl))
          | (with_reducible refine RUNL.run ?_)
          | ((with_reducible refine AR.ok ?_ ?_); exact ⟨by first | omega | (dsimp only; omega), by first | omega | (dsimp only; omega)⟩)
          | (with_reducible refine AR.wr ?_)
          | ((with_reducible intro w3 e3); try have z3 := cutLe e3)
          | ((with_reducible intro h3); have h4 := Nat.le_of_lt h3; clear h4)))
        · conv => whnf
          rw [if_neg (fun h => hyu (by rw [hu] at h; exact (Option.some.inj h.2).symm))] at hcu
          refine stM (i := _) hown rfl rfl rfl i rfl (by rw [List.getElem?_map, hv]; rfl) (by decide) (fun _ h => h) trivial (fun w6 e6 o6 => ?_)
          replace o6 : Own w6 lo 9 1 (.slice (some ⟨g, 0, none⟩) n c) ((ls.set i y).map encS) := by rw [List.map_set]; exact o6
          repeat (any_goals (
            conv => whnf
            first
            | ((with_reducible refine BIF.dec ?_ ?_) <;> intro _)
            | ((with_reducible refine BIF.s ?_ ?_) <;> intro _)
            | (with_reducible refine NEXTK.normal ?_)
            | (with_reducible refine NEXTK.ret ?_)
            | (with_reducible refine NEXTK.exit ?_)
            | (with_reducible refine SEQ.plain ?_)
            | (with_reducible refine hK _ _ ?_)
            | ((with_reducible refine RUNL.agg (fun _ => ?_) ?_); (focus kernel_rfl))
            | (with_reducible refine RUNL.run ?_)
            | ((with_reducible refine AR.ok ?_ ?_); exact ⟨by first | omega | (dsimp only; omega), by first | omega | (dsimp only; omega)⟩)
            | (with_reducible refine AR.wr ?_)
            | ((with_reducible intro w3 e3); try have z3 := cutLe e3)
            | ((with_reducible intro h3); have h4 := Nat.le_of_lt h3; clear h4)))
          refine ⟨(j + 1, i + 1, ls.set i y), rfl, ⟨?_, rfl, trivial⟩, rfl, rfl, ⟨by simp only; omega, by simp only; omega, by simpa using hln, ?_, ?_, o6⟩, by simp only; omega⟩
          · simp [lk, Nat.beq]; omega
          · simp only
            rw [hcu, ← htk, List.take_add_one, List.getElem?_set_self (by omega), List.take_set_of_le (Nat.le_refl _)]
            rfl
          · simp only [Nat.add_sub_cancel]
            rw [List.drop_set_of_lt (by omega), hdr']
        · rw [if_pos ⟨by omega, by rw [hu, hyu]⟩, List.append_nil] at hcu
          refine ⟨(j + 1, i, ls), rfl, ⟨?_, rfl, trivial⟩, rfl, rfl, ⟨by simp only; omega, by simp only; omega, hln, ?_, ?_, hown⟩, by simp only; omega⟩
          · simp [lk, Nat.beq]; omega
          · simp only [hcu]; exact htk
          · simp only [Nat.add_sub_cancel]; exact hdr'
      · have hjn' : j = n := by omega
        subst hjn'
        have ocut := hown.cut i (by omega)
        rw [← List.map_take, htk] at ocut
        repeat (any_goals (
          conv => whnf
          first
          | ((with_reducible refine BIF.dec ?_ ?_) <;> intro _)
          | ((exfalso; omega))
          | ((with_reducible refine OBL.mk ?_ (fun _ => ?_)); (first | omega | (dsimp only; omega)))
          | ((with_reducible refine BIF.dec ?_ ?_) <;> intro _)
          | ((with_reducible refine BIF.s ?_ ?_) <;> intro _)
          | (with_reducible refine NEXTK.normal ?_)
          | (with_reducible refine NEXTK.ret ?_)
          | (with_reducible refine NEXTK.exit ?_)
          | (with_reducible refine SEQ.plain ?_)
          | (with_reducible refine hK _ _ ?_)
          | ((with_reducible refine RUNL.agg (fun _ => ?_) ?_); (focus kernel_rfl))
          | (with_reducible refine RUNL.run ?_)
          | ((with_reducible refine AR.ok ?_ ?_); exact ⟨by first | omega | (dsimp only; omega), by first | omega | (dsimp only; omega)⟩)
          | (with_reducible refine AR.wr ?_)
          | ((with_reducible intro w3 e3); try have z3 := cutLe e3)
          | ((with_reducible intro h3); have h4 := Nat.le_of_lt h3; clear h4)))
        conv => whnf
        refine clS elemS rfl (n := i) (cp := c) ocut (fun _ => ?_) (by simp only [Int.toNat_natCast]; omega) (fun b _ h => h) trivial (fun w7 e7 o7 => ?_)
        · rw [if_neg (by omega)]
          congr 2
        repeat (any_goals (
          conv => whnf
          first
          | ((with_reducible refine OBL.mk ?_ (fun _ => ?_)); (first | omega | (dsimp only; omega)))
          | ((with_reducible refine BIF.dec ?_ ?_) <;> intro _)
          | ((with_reducible refine BIF.s ?_ ?_) <;> intro _)
          | (with_reducible refine NEXTK.normal ?_)
          | (with_reducible refine NEXTK.ret ?_)
          | (with_reducible refine NEXTK.exit ?_)
          | (with_reducible refine SEQ.plain ?_)
          | (with_reducible refine hK _ _ ?_)
          | ((with_reducible refine RUNL.agg (fun _ => ?_) ?_); (focus kernel_rfl))
          | (with_reducible refine RUNL.run ?_)
          | ((with_reducible refine AR.ok ?_ ?_); exact ⟨by first | omega | (dsimp only; omega), by first | omega | (dsimp only; omega)⟩)
          | (with_reducible refine AR.wr ?_)
          | ((with_reducible intro w3 e3); try have z3 := cutLe e3)
          | ((with_reducible intro h3); have h4 := Nat.le_of_lt h3; clear h4)))
        intro hx'
        refine ⟨_, rfl, hx', ?_⟩
        have e0 := cut0 g c i 1
        simp only [resV]
        exact e0 ▸ o7
    · refine ⟨k + 1, rfl, ⟨?_, trivial⟩, rfl, rfl, ⟨by omega, fun j v h0 h1 hv => ?_, hown⟩, by omega⟩
      · simp [lk, Nat.beq]
      · rcases Nat.lt_or_ge j (k + 1) with h | h
        · exact hne j v h0 h hv
        · obtain rfl : j = k + 1 := by omega
          rw [hx] at hv; cases hv
          rw [Nat.add_sub_cancel, hz]
          intro e; cases e; exact hxz rfl
  · have hkn : k + 1 = n := by omega
    have hsame : compU xs n = xs := by
      rw [compU_same (by omega) (fun j x h0 h1 => hne j x h0 (by omega)), List.take_of_length_le (by omega)]
    repeat (any_goals (
      conv => whnf
      first
      | ((with_reducible refine BIF.dec ?_ ?_) <;> intro _)
      | ((with_reducible refine BIF.s ?_ ?_) <;> intro _)
      | (with_reducible refine NEXTK.normal ?_)
      | (with_reducible refine NEXTK.ret ?_)
      | (with_reducible refine NEXTK.exit ?_)
      | (with_reducible refine SEQ.plain ?_)
      | (with_reducible refine hK _ _ ?_)
      | ((with_reducible refine RUNL.agg (fun _ => ?_) ?_); (focus kernel_rfl))
      | (with_reducible refine RUNL.run ?_)
      | ((with_reducible refine AR.ok ?_ ?_); exact ⟨by first | omega | (dsimp only; omega), by first | omega | (dsimp only; omega)⟩)
      | (with_reducible refine AR.wr ?_)
      | ((with_reducible intro w3 e3); try have z3 := cutLe e3)
      | ((with_reducible intro h3); have h4 := Nat.le_of_lt h3; clear h4)))
    intro hx
    rw [hsame]
    exact ⟨_, rfl, hx, hown⟩

end Go.Proofs.YtohnoccmaeegdaaGreatDoor

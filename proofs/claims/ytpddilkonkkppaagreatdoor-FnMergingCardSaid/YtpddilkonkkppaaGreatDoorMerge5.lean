/- Sound entries, as the specification has it. -/
import Derived.Test.YtpddilkonkkppaaGreatDoorRows
import Derived.Test.YtpddilkonkkppaaGreatDoorMerge4
namespace Go.Proofs.YtpddilkonkkppaaGreatDoor
open Go Go.X Go.Proofs Go.ChangeShapes Go.WideShapes Go.ChangeAt Go.RowKit
open Go.ChangeMaps (open_string shut_string)
set_option maxHeartbeats 1000000
set_option maxRecDepth 20000
set_option linter.unusedVariables false
set_option linter.unusedSimpArgs false
theorem seenAt_iff {es : List Ent} {k : Nat} {x : Ent} {s : Int} (hx : es[k]? = some x) (hs : s ∈ x.fSeen) : seenAt es k s = true ↔ ∀ t y, t ≠ k → es[t]? = some y → knowsB s y = false := by
  have hk : knowsB s x = true := by unfold knowsB; simp [hs]
  unfold seenAt
  simp only [Bool.and_eq_true, decide_eq_true_eq, Bool.not_eq_true', List.any_eq_false]
  constructor
  · rintro ⟨h1, h2⟩ t y ht hy
    rcases Nat.lt_or_ge t k with hlt | hge
    · rcases idxP_spec (knowsB s) es with ⟨hi, -⟩ | ⟨k', x', hi, -, -, -, hno⟩
      · omega
      · exact hno t y (by omega) hy
    · have : y ∈ es.drop (k + 1) := by
        rw [List.mem_iff_getElem?]
        exact ⟨t - (k + 1), by rw [List.getElem?_drop, show k + 1 + (t - (k + 1)) = t from by omega]; exact hy⟩
      simpa using h2 y this
  · intro h
    refine ⟨idxP_hit hx hk (fun j y hj hy => h j y (by omega) hy), fun y hy => ?_⟩
    obtain ⟨i, hi⟩ := List.mem_iff_getElem?.1 hy
    rw [List.getElem?_drop] at hi
    simpa using h (k + 1 + i) y (by omega) hi
theorem areE_seen {es : List Ent} {k : Nat} {x : Ent} {s : Int} (hx : es[k]? = some x) (hs : s ∈ x.fSeen) (h : seenAt es k s = false) : areE es = false := by
  refine areE_false (List.getElem?_eq_some_iff.1 hx).1 ?_
  unfold eAt
  rw [hx, Bool.and_eq_false_iff]
  right
  rw [List.all_eq_false]
  exact ⟨s, hs, by rw [h]; simp⟩
def sizT (ts : List Tri) : Prop := ∀ t ∈ ts, t.1.fSeen.length ≤ 1048577 ∧ t.1.fTitle.size ≤ 9223372036854775807 ∧ t.1.fPlace.size ≤ 9223372036854775807
theorem l25Good_c (a : Option Addr) (n c : Nat) (ts : List Tri) (w : World) (hr : Row w a 6 (ts.map encT)) (hs : SeenAt w ts) (hn : ts.length = n) (hm : n ≤ 1048577) (hz : sizT ts) :
    Calls Tryz.prog 50 #[.slice a n c] w fun e w' => e = .returned (.bool (areE (ts.map (·.1)))) ∧ E0 w w' := by
  refine enterK Non 80 Tryz.func50 rfl rfl rfl fun K hK => ?_
  have hlen : (ts.map (·.1)).length = n := by rw [List.length_map]; exact hn
  by_cases h12 : 12 < n
  · repeat (any_goals (
      conv => whnf
      first
      | ((exfalso; omega))
      | ((with_reducible refine BIF.dec ?_ ?_) <;> intro _)
      | ((with_reducible refine BIF.s ?_ ?_) <;> intro _)
      | (with_reducible refine NEXTK.normal ?_)
      | (with_reducible refine NEXTK.ret ?_)
      | (with_reducible refine NEXTK.exit ?_)
      | (with_reducible refine SEQ.plain ?_)
      | (with_reducible refine hK _ _ ?_)
      | ((with_reducible refine RUNL.agg (fun _ => ?_) ?_); (focus kernel_rfl))
      | (with_reducible refine RUNL.run ?_)
      | ((with_reducible refine AR.ok ?_ ?_); exact ⟨by first | omega | (dsimp only; omega), by first | omega | (dsimp only; omega)⟩)
      | (with_reducible refine AR.wr ?_)
      | ((with_reducible intro w3 e3); try have z3 := cutLe e3)
      | ((with_reducible intro h3); have h4 := Nat.le_of_lt h3; clear h4)))
    intro hw
    refine ⟨?_, hw⟩
    have : areE (ts.map (·.1)) = false := by unfold areE; rw [hlen, decide_eq_false (by omega : ¬ n ≤ 12), Bool.and_false]
    rw [this]; rfl
  repeat (any_goals (
    conv => whnf
    first
    | ((exfalso; omega))
    | ((with_reducible refine BIF.dec ?_ ?_) <;> intro _)
    | ((with_reducible refine BIF.s ?_ ?_) <;> intro _)
    | (with_reducible refine NEXTK.normal ?_)
    | (with_reducible refine NEXTK.ret ?_)
    | (with_reducible refine NEXTK.exit ?_)
    | (with_reducible refine SEQ.plain ?_)
    | (with_reducible refine hK _ _ ?_)
    | ((with_reducible refine RUNL.agg (fun _ => ?_) ?_); (focus kernel_rfl))
    | (with_reducible refine RUNL.run ?_)
    | ((with_reducible refine AR.ok ?_ ?_); exact ⟨by first | omega | (dsimp only; omega), by first | omega | (dsimp only; omega)⟩)
    | (with_reducible refine AR.wr ?_)
    | ((with_reducible intro w3 e3); try have z3 := cutLe e3)
    | ((with_reducible intro h3); have h4 := Nat.le_of_lt h3; clear h4)))
  conv => whnf
  refine LOOP.mk Nat (fun k => [(3, .v (.int .i64 k))]) (fun k wr => k ≤ n ∧ ∀ j, j < k → gAtE (ts.map (·.1)) j = true) (fun k => n - k) 0 rfl ⟨rfl, trivial⟩ ⟨Nat.zero_le _, fun j hj => by omega⟩ ?_
  rintro k wr hX0 ⟨hk, ho⟩
  conv => whnf
  repeat (first | ((with_reducible refine NEXTK.normal ?_); conv => whnf) | ((with_reducible refine NEXTK.exit ?_); conv => whnf) | ((with_reducible refine NEXTK.ret ?_); conv => whnf) | ((with_reducible refine SEQ.plain ?_); conv => whnf) | ((with_reducible refine AR.ok ?_ ?_); exact ⟨by omega, by omega⟩; conv => whnf))
  refine BIF.dec (fun hlt => ?_) (fun hlt => ?_)
  · have hlt1 : k < ts.length := by omega
    have his := hr.isSome (by simp; omega)
    obtain ⟨t, ht⟩ : ∃ t, ts[k]? = some t := ⟨ts[k], by simp⟩
    have hmt := List.mem_of_getElem? ht
    have hzt := hz t hmt
    conv => whnf
    repeat (first | ((with_reducible refine NEXTK.normal ?_); conv => whnf) | ((with_reducible refine NEXTK.exit ?_); conv => whnf) | ((with_reducible refine NEXTK.ret ?_); conv => whnf) | ((with_reducible refine SEQ.plain ?_); conv => whnf) | ((with_reducible refine AR.ok ?_ ?_); exact ⟨by omega, by omega⟩; conv => whnf))
    refine DRAW.quiet (by kernel_rfl) (by kernel_rfl) ?_
    repeat (any_goals (
      conv => whnf
      first
      | ((with_reducible refine OBL.mk ?_ (fun _ => ?_)); exact ⟨by first | omega | (dsimp only; omega), by first | omega | (dsimp only; omega), his⟩)
      | ((with_reducible refine ELD.at (k) hr ?_ ?_ ?_ (fun x' hx' => ?_)); exact mAddr_Non _; (first | rfl | omega); exact hlt1; obtain rfl : t = x' := by (rw [ht] at hx'; exact Option.some.inj hx'))
      | ((with_reducible refine callQX (g := 83) ?_ ?_); kernel_rfl; refine ⟨_, fun w' e' hX => l25One_c t w' ((hs t hmt).ext hX (mAddr_Non _)) hzt.1 hzt.2.1 hzt.2.2, ?_⟩)
      | ((with_reducible refine ELD.at (enc := encT) (xs := ts) (k - 1) hr ?_ ?_ ?_ (fun y hy => ?_)); exact mAddr_Non _; (focus omega); (focus omega))
      | ((with_reducible refine BIF.dec ?_ ?_) <;> intro _)
      | ((with_reducible refine BIF.dec ?_ ?_) <;> intro _)
      | ((with_reducible refine BIF.s ?_ ?_) <;> intro _)
      | (with_reducible refine NEXTK.normal ?_)
      | (with_reducible refine NEXTK.ret ?_)
      | (with_reducible refine NEXTK.exit ?_)
      | (with_reducible refine SEQ.plain ?_)
      | (with_reducible refine hK _ _ ?_)
      | ((with_reducible refine RUNL.agg (fun _ => ?_) ?_); (focus kernel_rfl))
      | (with_reducible refine RUNL.run ?_)
      | ((with_reducible refine AR.ok ?_ ?_); exact ⟨by first | omega | (dsimp only; omega), by first | omega | (dsimp only; omega)⟩)
      | (with_reducible refine AR.wr ?_)
      | ((with_reducible intro w3 e3); try have z3 := cutLe e3)
      | ((with_reducible intro h3); have h4 := Nat.le_of_lt h3; clear h4)))
    all_goals first
      | (intro hw
         refine ⟨?_, hw⟩
         have hgf : gAtE (ts.map (·.1)) k = false := by
           unfold gAtE
           rw [fst_at ht]
           simp_all
         rw [areE_false (k := k) (by omega) (by unfold eAt; rw [hgf]; rfl)]; rfl)
      | (intro hw
         refine ⟨?_, hw⟩
         have hgf : gAtE (ts.map (·.1)) k = false := by
           rw [gAtE_get (by omega) (fst_at ht) (fst_at hy)]
           simp; omega
         rw [areE_false (k := k) (by omega) (by unfold eAt; rw [hgf]; rfl)]; rfl)
      | (have hok : okE t.1 = true := by
           clear hK
           simp_all
         have hg : gAtE (ts.map (·.1)) k = true := by
           by_cases hk0 : k = 0
           · subst hk0
             rw [gAtE_zero (fst_at ht)]; exact hok
           · first
             | (exfalso; omega)
             | (rw [gAtE_get (by omega) (fst_at ht) (fst_at hy), hok]; simp; omega)
         refine ⟨k + 1, rfl, ⟨rfl, trivial⟩, rfl, rfl, ⟨by omega, fun j hj => ?_⟩, by omega⟩
         rcases Nat.lt_or_ge j k with h | h
         · exact ho j h
         · obtain rfl : j = k := by omega
           exact hg)
  · repeat (any_goals (
      conv => whnf
      first
      | ((with_reducible refine BIF.dec ?_ ?_) <;> intro _)
      | ((with_reducible refine BIF.s ?_ ?_) <;> intro _)
      | (with_reducible refine NEXTK.normal ?_)
      | (with_reducible refine NEXTK.ret ?_)
      | (with_reducible refine NEXTK.exit ?_)
      | (with_reducible refine SEQ.plain ?_)
      | (with_reducible refine hK _ _ ?_)
      | ((with_reducible refine RUNL.agg (fun _ => ?_) ?_); (focus kernel_rfl))
      | (with_reducible refine RUNL.run ?_)
      | ((with_reducible refine AR.ok ?_ ?_); exact ⟨by first | omega | (dsimp only; omega), by first | omega | (dsimp only; omega)⟩)
      | (with_reducible refine AR.wr ?_)
      | ((with_reducible intro w3 e3); try have z3 := cutLe e3)
      | ((with_reducible intro h3); have h4 := Nat.le_of_lt h3; clear h4)))
    conv => whnf
    refine LOOP.mk Nat (fun k => [(4, .v (.int .i64 k))]) (fun k wr => k ≤ n ∧ ∀ j x, j < k → (ts.map (·.1))[j]? = some x → x.fSeen.all (seenAt (ts.map (·.1)) j) = true) (fun k => n - k) 0 rfl ⟨rfl, trivial⟩ ⟨Nat.zero_le _, fun j x hj => by omega⟩ ?_
    rintro i wi hXi ⟨hi, hoi⟩
    conv => whnf
    repeat (first | ((with_reducible refine NEXTK.normal ?_); conv => whnf) | ((with_reducible refine NEXTK.exit ?_); conv => whnf) | ((with_reducible refine NEXTK.ret ?_); conv => whnf) | ((with_reducible refine SEQ.plain ?_); conv => whnf) | ((with_reducible refine AR.ok ?_ ?_); exact ⟨by omega, by omega⟩; conv => whnf))
    refine BIF.dec (fun hlt2 => ?_) (fun hlt2 => ?_)
    · have hlt1 : i < ts.length := by omega
      have his := hr.isSome (by simp; omega)
      obtain ⟨t, ht⟩ : ∃ t, ts[i]? = some t := ⟨ts[i], by simp⟩
      have hmt := List.mem_of_getElem? ht
      have hzt := (hz t hmt).1
      repeat (any_goals (
        conv => whnf
        first
        | ((with_reducible refine BIF.dec ?_ ?_) <;> intro _)
        | ((with_reducible refine BIF.s ?_ ?_) <;> intro _)
        | (with_reducible refine NEXTK.normal ?_)
        | (with_reducible refine NEXTK.ret ?_)
        | (with_reducible refine NEXTK.exit ?_)
        | (with_reducible refine SEQ.plain ?_)
        | (with_reducible refine hK _ _ ?_)
        | ((with_reducible refine RUNL.agg (fun _ => ?_) ?_); (focus kernel_rfl))
        | (with_reducible refine RUNL.run ?_)
        | ((with_reducible refine AR.ok ?_ ?_); exact ⟨by first | omega | (dsimp only; omega), by first | omega | (dsimp only; omega)⟩)
        | (with_reducible refine AR.wr ?_)
        | ((with_reducible intro w3 e3); try have z3 := cutLe e3)
        | ((with_reducible intro h3); have h4 := Nat.le_of_lt h3; clear h4)))
      conv => whnf
      refine LOOP.mk Nat (fun q => [(5, .v (.int .i64 q))]) (fun q ws => q ≤ t.1.fSeen.length ∧ (t.1.fSeen.take q).all (seenAt (ts.map (·.1)) i) = true) (fun q => t.1.fSeen.length - q) 0 rfl ⟨rfl, trivial⟩ ⟨Nat.zero_le _, rfl⟩ ?_
      rintro q ws hX1 ⟨hq, hall⟩
      conv => whnf
      repeat (first | ((with_reducible refine NEXTK.normal ?_); conv => whnf) | ((with_reducible refine NEXTK.exit ?_); conv => whnf) | ((with_reducible refine NEXTK.ret ?_); conv => whnf) | ((with_reducible refine SEQ.plain ?_); conv => whnf) | ((with_reducible refine AR.ok ?_ ?_); exact ⟨by omega, by omega⟩; conv => whnf))
      repeat (any_goals (
        conv => whnf
        first
        | ((with_reducible refine OBL.mk ?_ (fun _ => ?_)); exact ⟨by first | omega | (dsimp only; omega), by first | omega | (dsimp only; omega), his⟩)
        | ((with_reducible refine ELD.at (i) hr ?_ ?_ ?_ (fun x' hx' => ?_)); exact mAddr_Non _; (first | rfl | omega); exact hlt1; obtain rfl : t = x' := by (rw [ht] at hx'; exact Option.some.inj hx'))
        | ((with_reducible refine BIF.dec ?_ ?_) <;> intro _)
        | ((with_reducible refine BIF.s ?_ ?_) <;> intro _)
        | (with_reducible refine NEXTK.normal ?_)
        | (with_reducible refine NEXTK.ret ?_)
        | (with_reducible refine NEXTK.exit ?_)
        | (with_reducible refine SEQ.plain ?_)
        | (with_reducible refine hK _ _ ?_)
        | ((with_reducible refine RUNL.agg (fun _ => ?_) ?_); (focus kernel_rfl))
        | (with_reducible refine RUNL.run ?_)
        | ((with_reducible refine AR.ok ?_ ?_); exact ⟨by first | omega | (dsimp only; omega), by first | omega | (dsimp only; omega)⟩)
        | (with_reducible refine AR.wr ?_)
        | ((with_reducible intro w3 e3); try have z3 := cutLe e3)
        | ((with_reducible intro h3); have h4 := Nat.le_of_lt h3; clear h4)))
      · have hq1 : q < t.1.fSeen.length := by omega
        obtain ⟨s, hs1⟩ : ∃ s, t.1.fSeen[q]? = some s := ⟨t.1.fSeen[q], by simp⟩
        have hsm := List.mem_of_getElem? hs1
        have hrt := hs t hmt
        have hist := hrt.isSome (by simp; omega)
        refine LOOP.mk Nat (fun r => [(6, .v (.int .i64 r))]) (fun r wt => r ≤ n ∧ ∀ j y, j < r → j ≠ i → (ts.map (·.1))[j]? = some y → knowsB s y = false) (fun r => n - r) 0 rfl ⟨rfl, trivial⟩ ⟨Nat.zero_le _, fun j y hj => by omega⟩ ?_
        rintro r wt hX2 ⟨hr1, hor⟩
        conv => whnf
        repeat (first | ((with_reducible refine NEXTK.normal ?_); conv => whnf) | ((with_reducible refine NEXTK.exit ?_); conv => whnf) | ((with_reducible refine NEXTK.ret ?_); conv => whnf) | ((with_reducible refine SEQ.plain ?_); conv => whnf) | ((with_reducible refine AR.ok ?_ ?_); exact ⟨by omega, by omega⟩; conv => whnf))
        refine BIF.dec (fun hlt3 => ?_) (fun hlt3 => ?_)
        · have hr2 : r < ts.length := by omega
          obtain ⟨u, hu⟩ : ∃ u, ts[r]? = some u := ⟨ts[r], by simp⟩
          have hmu := List.mem_of_getElem? hu
          by_cases hri : r = i
          · subst hri
            conv => whnf
            repeat (first | ((with_reducible refine NEXTK.normal ?_); conv => whnf) | ((with_reducible refine NEXTK.exit ?_); conv => whnf) | ((with_reducible refine NEXTK.ret ?_); conv => whnf) | ((with_reducible refine SEQ.plain ?_); conv => whnf) | ((with_reducible refine AR.ok ?_ ?_); exact ⟨by omega, by omega⟩; conv => whnf))
            refine DRAW.quiet (by kernel_rfl) (by kernel_rfl) ?_
            repeat (any_goals (
              conv => whnf
              first
              | ((with_reducible refine BIF.bne (fun h => absurd rfl h) (fun _ => ?_)))
              | ((with_reducible refine BIF.dec ?_ ?_) <;> intro _)
              | ((with_reducible refine BIF.s ?_ ?_) <;> intro _)
              | (with_reducible refine NEXTK.normal ?_)
              | (with_reducible refine NEXTK.ret ?_)
              | (with_reducible refine NEXTK.exit ?_)
              | (with_reducible refine SEQ.plain ?_)
              | (with_reducible refine hK _ _ ?_)
              | ((with_reducible refine RUNL.agg (fun _ => ?_) ?_); (focus kernel_rfl))
              | (with_reducible refine RUNL.run ?_)
              | ((with_reducible refine AR.ok ?_ ?_); exact ⟨by first | omega | (dsimp only; omega), by first | omega | (dsimp only; omega)⟩)
              | (with_reducible refine AR.wr ?_)
              | ((with_reducible intro w3 e3); try have z3 := cutLe e3)
              | ((with_reducible intro h3); have h4 := Nat.le_of_lt h3; clear h4)))
            refine ⟨r + 1, rfl, ⟨rfl, trivial⟩, rfl, rfl, ⟨by omega, fun j y hj hji hy => hor j y (by omega) hji hy⟩, by omega⟩
          · conv => whnf
            repeat (first | ((with_reducible refine NEXTK.normal ?_); conv => whnf) | ((with_reducible refine NEXTK.exit ?_); conv => whnf) | ((with_reducible refine NEXTK.ret ?_); conv => whnf) | ((with_reducible refine SEQ.plain ?_); conv => whnf) | ((with_reducible refine AR.ok ?_ ?_); exact ⟨by omega, by omega⟩; conv => whnf))
            refine DRAW.quiet (by kernel_rfl) (by kernel_rfl) ?_
            repeat (any_goals (
              conv => whnf
              first
              | ((with_reducible refine BIF.bne (fun _ => ?_) (fun h => absurd h (by omega))))
              | ((with_reducible refine OBL.mk ?_ (fun _ => ?_)); exact ⟨by first | omega | (dsimp only; omega), by first | omega | (dsimp only; omega), his⟩)
              | ((with_reducible refine OBL.mk ?_ (fun _ => ?_)); exact ⟨by first | omega | (dsimp only; omega), by first | omega | (dsimp only; omega), hist⟩)
              | ((with_reducible refine ELD.at (r) hr ?_ ?_ ?_ (fun x' hx' => ?_)); exact mAddr_Non _; (first | rfl | omega); exact hr2; obtain rfl : u = x' := by (rw [hu] at hx'; exact Option.some.inj hx'))
              | ((with_reducible refine ELD.at (i) hr ?_ ?_ ?_ (fun x' hx' => ?_)); exact mAddr_Non _; (first | rfl | omega); exact hlt1; obtain rfl : t = x' := by (rw [ht] at hx'; exact Option.some.inj hx'))
              | ((with_reducible refine ELD.at (q) hrt ?_ ?_ ?_ (fun x' hx' => ?_)); exact mAddr_Non _; (first | rfl | omega); exact hq1; obtain rfl : s = x' := by (rw [hs1] at hx'; exact Option.some.inj hx'))
              | ((with_reducible refine callQX (g := 84) ?_ ?_); kernel_rfl; refine ⟨_, fun w' e' hX => l25Holds_c u s w' ((hs u hmu).ext hX (mAddr_Non _)) (hz u hmu).1, ?_⟩)
              | ((with_reducible refine BIF.s (fun hkn => ?_) (fun hkn => ?_)))
              | ((with_reducible refine BIF.dec ?_ ?_) <;> intro _)
              | ((with_reducible refine BIF.s ?_ ?_) <;> intro _)
              | (with_reducible refine NEXTK.normal ?_)
              | (with_reducible refine NEXTK.ret ?_)
              | (with_reducible refine NEXTK.exit ?_)
              | (with_reducible refine SEQ.plain ?_)
              | (with_reducible refine hK _ _ ?_)
              | ((with_reducible refine RUNL.agg (fun _ => ?_) ?_); (focus kernel_rfl))
              | (with_reducible refine RUNL.run ?_)
              | ((with_reducible refine AR.ok ?_ ?_); exact ⟨by first | omega | (dsimp only; omega), by first | omega | (dsimp only; omega)⟩)
              | (with_reducible refine AR.wr ?_)
              | ((with_reducible intro w3 e3); try have z3 := cutLe e3)
              | ((with_reducible intro h3); have h4 := Nat.le_of_lt h3; clear h4)))
            all_goals first
              | (intro hw
                 refine ⟨?_, hw⟩
                 rw [areE_seen (fst_at ht) hsm (by
                   rw [Bool.eq_false_iff]
                   intro h
                   have := (seenAt_iff (fst_at ht) hsm).1 h r u.1 hri (fst_at hu)
                   rw [this] at hkn; cases hkn)]; rfl)
              | (refine ⟨r + 1, rfl, ⟨rfl, trivial⟩, rfl, rfl, ⟨by omega, fun j y hj hji hy => ?_⟩, by omega⟩
                 rcases Nat.lt_or_ge j r with h | h
                 · exact hor j y h hji hy
                 · obtain rfl : j = r := by omega
                   rw [fst_at hu] at hy
                   cases hy
                   exact hkn)
        · repeat (any_goals (
            conv => whnf
            first
            | ((with_reducible refine BIF.dec ?_ ?_) <;> intro _)
            | ((with_reducible refine BIF.s ?_ ?_) <;> intro _)
            | (with_reducible refine NEXTK.normal ?_)
            | (with_reducible refine NEXTK.ret ?_)
            | (with_reducible refine NEXTK.exit ?_)
            | (with_reducible refine SEQ.plain ?_)
            | (with_reducible refine hK _ _ ?_)
            | ((with_reducible refine RUNL.agg (fun _ => ?_) ?_); (focus kernel_rfl))
            | (with_reducible refine RUNL.run ?_)
            | ((with_reducible refine AR.ok ?_ ?_); exact ⟨by first | omega | (dsimp only; omega), by first | omega | (dsimp only; omega)⟩)
            | (with_reducible refine AR.wr ?_)
            | ((with_reducible intro w3 e3); try have z3 := cutLe e3)
            | ((with_reducible intro h3); have h4 := Nat.le_of_lt h3; clear h4)))
          refine ⟨q + 1, rfl, ⟨rfl, trivial⟩, rfl, rfl, ⟨by omega, ?_⟩, by omega⟩
          have hst : seenAt (ts.map (·.1)) i s = true := (seenAt_iff (fst_at ht) hsm).2 (fun j y hj hy => hor j y (by
            have := (List.getElem?_eq_some_iff.1 hy).1
            omega) hj hy)
          rw [List.take_add_one, hs1, List.all_append, hall]
          simp [hst]
      · refine ⟨i + 1, rfl, ⟨rfl, trivial⟩, rfl, rfl, ⟨by omega, fun j x hj hx => ?_⟩, by omega⟩
        rcases Nat.lt_or_ge j i with h | h
        · exact hoi j x h hx
        · obtain rfl : j = i := by omega
          rw [fst_at ht] at hx
          cases hx
          rw [List.take_of_length_le (by omega)] at hall
          exact hall
    · repeat (any_goals (
        conv => whnf
        first
        | ((with_reducible refine BIF.dec ?_ ?_) <;> intro _)
        | ((with_reducible refine BIF.s ?_ ?_) <;> intro _)
        | (with_reducible refine NEXTK.normal ?_)
        | (with_reducible refine NEXTK.ret ?_)
        | (with_reducible refine NEXTK.exit ?_)
        | (with_reducible refine SEQ.plain ?_)
        | (with_reducible refine hK _ _ ?_)
        | ((with_reducible refine RUNL.agg (fun _ => ?_) ?_); (focus kernel_rfl))
        | (with_reducible refine RUNL.run ?_)
        | ((with_reducible refine AR.ok ?_ ?_); exact ⟨by first | omega | (dsimp only; omega), by first | omega | (dsimp only; omega)⟩)
        | (with_reducible refine AR.wr ?_)
        | ((with_reducible intro w3 e3); try have z3 := cutLe e3)
        | ((with_reducible intro h3); have h4 := Nat.le_of_lt h3; clear h4)))
      intro hw
      refine ⟨?_, hw⟩
      have : areE (ts.map (·.1)) = true := by
        unfold areE
        rw [hlen, decide_eq_true (by omega : n ≤ 12), Bool.and_true, eUp, List.all_eq_true]
        intro j hj
        rw [List.mem_range] at hj
        unfold eAt
        rw [ho j (by omega), Bool.true_and]
        cases hx : (ts.map (·.1))[j]? with
        | none => rfl
        | some x => exact hoi j x (by omega) hx
      rw [this]; rfl

end Go.Proofs.YtpddilkonkkppaaGreatDoor

/- The worst sheets of the specification. -/
import Derived.Test.YtgopcppegjhmiaaDoorRows
import Derived.Test.YtgopcppegjhmiaaDoorRep7
namespace Go.Proofs.YtgopcppegjhmiaaDoor
open Go Go.X Go.Proofs Go.ChangeShapes Go.WideShapes Go.ChangeAt Go.RowKit
open Go.ChangeMaps (open_string shut_string)
set_option maxHeartbeats 1000000
set_option maxRecDepth 20000
set_option linter.unusedVariables false
set_option linter.unusedSimpArgs false
theorem isort_mem {xs : List Dmg} {y : Dmg} (h : y ∈ isort gk xs) : y ∈ xs := by
  have h3 := (isort_all gk xs xs.length (Nat.le_refl _)).2.2 (gk y)
  rw [List.take_length] at h3
  have : y ∈ (isort gk xs).filter (fun z => decide (gk z = gk y)) := List.mem_filter.2 ⟨h, by simp⟩
  rw [h3] at this
  exact (List.mem_filter.1 this).1
theorem rowPre {w : World} {p : Option Addr} {L : List Dmg} {k e : Nat} (h : Row w p 4 (L.map encDmg)) (hk : (k : Int) ≤ e) : Row w (if (e : Int).toNat = Int.toNat 0 then p else p.map (·.add (Int.toNat 0 * 4))) 4 ((L.take k).map encDmg) := by
  have := h.sub 0 k e hk
  rw [show (L.drop (Int.toNat 0)).take ((k : Int).toNat - Int.toNat 0) = L.take k from by simp] at this
  exact this
theorem rowSuf {w : World} {p : Option Addr} {L : List Dmg} {k e : Nat} (h : Row w p 4 (L.map encDmg)) (hk : (L.length : Int) ≤ e) : Row w (if (e : Int).toNat = (k : Int).toNat then p else p.map (·.add ((k : Int).toNat * 4))) 4 ((L.drop k).map encDmg) := by
  have := h.sub k L.length e hk
  rw [show (L.drop (k : Int).toNat).take ((L.length : Int).toNat - (k : Int).toNat) = L.drop k from by
    rw [show (k : Int).toNat = k from by omega]; exact List.take_of_length_le (by simp)] at this
  exact this
theorem doneL_ok {xs : List Dmg} (ys : List Rep) (h : ∀ x ∈ xs, okD x = true) : ∀ x ∈ doneL xs ys, okD x = true := by
  intro x hx
  unfold doneL at hx
  obtain ⟨y, hy, rfl⟩ := List.mem_map.1 hx
  exact doneD_ok (h y hy) _ _
theorem areD_all {xs : List Dmg} (h : areD xs = true) : ∀ x ∈ xs, okD x = true := by
  intro x hx
  obtain ⟨k, hk⟩ := List.getElem?_of_mem hx
  exact areD_at h hk
set_option maxHeartbeats 1000000 in
theorem WorstSheetsS_c (a b : Option Addr) (n c m d : Nat) (xs : List Dmg) (ys : List Rep) (t : Int) (w : World) (hr : Row w a 4 (xs.map encDmg)) (hs : Row w b 3 (ys.map encRep)) (hn : xs.length = n) (hm : ys.length = m) (hn1 : n ≤ 4611686018427387904) (hm1 : m ≤ 4611686018427387904) (hc : m ≤ d ∧ d < 9223372036854775808) :
    Calls Tryd.prog 15 #[.slice a n c, .slice b m d, .int .i64 t] w fun e w' => ∃ r, e = .returned r ∧ E0 w w' ∧ ∃ v, r = .tuple #[v, .bool (worstP xs ys t).2] ∧ Own w' w.heap.size 3 1 v ((worstP xs ys t).1.map encI) := by
  refine enterK Non 87 Tryd.func15 rfl rfl rfl fun K hK => ?_
  by_cases hg : areR xs ys = true ∧ inB t 0 10 = true
  · obtain ⟨g1, g2⟩ := hg
    have hl := areD_len (areR_spec g1).1
    have htb := inB_iff.1 g2
    repeat (any_goals (
      conv => whnf
      first
      | ((with_reducible refine bsS elemI [] rfl rfl (by simp) (by omega) (fun w9 e9 o9 => ?_)); have z9 := cutLe e9)
      | ((with_reducible refine callF (g := 33) ?_ ?_); kernel_rfl; refine ⟨_, l22Good_c _ _ _ _ _ _ xs ys _ (by repeat (first | assumption | refine Row.e0 ?_ (by assumption))) (by repeat (first | assumption | refine Row.e0 ?_ (by assumption))) hn hm hn1 hm1 hc, ?_⟩; intro w4 e4; have z4 := cutLe e4)
      | ((with_reducible refine callF (g := 40) ?_ ?_); kernel_rfl; refine ⟨_, l1In_c _ _ _ _, ?_⟩; intro w4 e4; have z4 := cutLe e4)
      | ((with_reducible refine BIF.s (fun h => absurd h ?_) (fun _ => ?_)); focus (simp [g1]; done))
      | ((with_reducible refine BIF.s (fun _ => ?_) (fun h => absurd h ?_)); rotate_left; focus (simp [g1]; done))
      | ((with_reducible refine BIF.s (fun h => absurd h ?_) (fun _ => ?_)); focus (simp [g2]; done))
      | ((with_reducible refine BIF.s (fun _ => ?_) (fun h => absurd h ?_)); rotate_left; focus (simp [g2]; done))
      | ((with_reducible refine bsS elemDmg [] rfl rfl (by simp) (by omega) (fun w8 e8 o8 => ?_)); have z8 := cutLe e8)
      | ((with_reducible refine BIF.dec ?_ ?_) <;> intro _)
      | ((with_reducible refine BIF.s ?_ ?_) <;> intro _)
      | (with_reducible refine NEXTK.normal ?_)
      | (with_reducible refine NEXTK.ret ?_)
      | (with_reducible refine NEXTK.exit ?_)
      | (with_reducible refine SEQ.plain ?_)
      | (with_reducible refine hK _ _ ?_)
      | ((with_reducible refine RUNL.agg (fun _ => ?_) ?_); (focus kernel_rfl))
      | (with_reducible refine RUNL.run ?_)
      | ((with_reducible refine AR.ok ?_ ?_); exact ⟨by first | omega | (dsimp only; omega), by first | omega | (dsimp only; omega)⟩)
      | (with_reducible refine AR.wr ?_)
      | ((with_reducible intro w3 e3); try have z3 := cutLe e3)
      | ((with_reducible intro h3); have h4 := Nat.le_of_lt h3; clear h4)))
    conv => whnf
    have hout0 : Own w8 w.heap.size 3 1 (.slice (some ⟨w.heap.size, 0, none⟩) 0 0) (([] : List Int).map encI) := by
      repeat (first | exact o9 | refine Own.e0 ?_ (by assumption))
    obtain ⟨s9, hs9⟩ : ∃ s9, s9 = w9.heap.size := ⟨_, rfl⟩
    have hs9b : w.heap.size < s9 := by
      have := (o9.block rfl).2
      rw [hs9]; exact this
    refine LOOP.mk (Nat × (Option Addr × Nat × Nat)) (fun g => [(10, .v (.int .i64 g.1)), (9, .v (.slice g.2.1 g.2.2.1 g.2.2.2))])
      (fun g wr => g.1 ≤ n ∧ s9 ≤ wr.heap.size ∧ Own wr s9 42 4 (.slice g.2.1 g.2.2.1 g.2.2.2) ((isort gk (doneL (xs.take g.1) ys)).map encDmg) ∧ Own wr w.heap.size 3 1 (.slice (some ⟨w.heap.size, 0, none⟩) 0 0) (([] : List Int).map encI)) (fun g => n - g.1) (0, (_, 0, 0)) rfl ⟨rfl, rfl, trivial⟩ ⟨Nat.zero_le _, by show s9 ≤ w8.heap.size; omega, o8.lo (by omega), hout0⟩ ?_
    rintro ⟨j, ⟨p, q, e⟩⟩ wr - ⟨hj, hz, hown, hout⟩
    simp only at hj hz hown hout
    dsimp only
    obtain ⟨L, hL⟩ : ∃ L, L = isort gk (doneL (xs.take j) ys) := ⟨_, rfl⟩
    rw [← hL] at hown
    have hLa := isort_all gk (doneL (xs.take j) ys) (doneL (xs.take j) ys).length (Nat.le_refl _)
    rw [List.take_length, ← hL] at hLa
    have hLl : L.length = j := by rw [hLa.2.1, doneL, List.length_map, List.length_take]; omega
    have hLo : ∀ y ∈ L, okD y = true := fun y hy => doneL_ok ys (fun x hx => areD_all (areR_spec g1).1 x (List.mem_of_mem_take hx)) y (isort_mem (hL ▸ hy))
    have hml := hown.row.2
    rw [List.length_map] at hml
    obtain ⟨p1, e1, hp, -, hcap⟩ := hown.rowx
    cases hp
    clear hml
    have oL := fun k h => hown.block (k := k) h
    have oO := fun k h => hout.block (k := k) h
    conv => whnf
    repeat (first | ((with_reducible refine NEXTK.normal ?_); conv => whnf) | ((with_reducible refine NEXTK.exit ?_); conv => whnf) | ((with_reducible refine NEXTK.ret ?_); conv => whnf) | ((with_reducible refine SEQ.plain ?_); conv => whnf) | ((with_reducible refine AR.ok ?_ ?_); exact ⟨by omega, by omega⟩; conv => whnf))
    refine BIF.dec (fun hlt => ?_) (fun hlt => ?_)
    · have hlt' : j < xs.length := by omega
      have his := hr.isSome (by simp; omega)
      obtain ⟨x, hx⟩ : ∃ x, xs[j]? = some x := ⟨xs[j]'(by omega), by simp⟩
      have hxo := areD_at (areR_spec g1).1 hx
      obtain ⟨z, hz0⟩ : ∃ z, z = doneD x ys 4000 := ⟨_, rfl⟩
      have hzo : okD z = true := by rw [hz0]; exact doneD_ok hxo _ _
      have hnext : isort gk (doneL (xs.take (j + 1)) ys) = insK gk L z := by
        have hdl : (doneL (xs.take (j + 1)) ys)[j]? = some z := by
          unfold doneL; rw [List.getElem?_map, List.getElem?_take, if_pos (by omega), hx, hz0]; rfl
        have h5 := isort_take gk hdl
        rw [List.take_of_length_le (by unfold doneL; rw [List.length_map, List.length_take]; omega)] at h5
        rw [h5, hL]
        congr 2
        unfold doneL
        rw [← List.map_take, List.take_take, Nat.min_eq_left (by omega)]
      repeat (any_goals (
        conv => whnf
        first
        | ((with_reducible refine OBL.mk ?_ (fun _ => ?_)); exact ⟨by first | omega | (dsimp only; omega), by first | omega | (dsimp only; omega), his⟩)
        | ((with_reducible refine ELD.at (j) hr ?_ ?_ ?_ (fun x' hx' => ?_)); exact mAddr_Non _; (first | rfl | omega); exact hlt'; obtain rfl : x = x' := by (rw [hx] at hx'; exact Option.some.inj hx'))
        | ((with_reducible refine callX (g := 41) ?_ ?_); kernel_rfl; intro hX; refine ⟨_, hz0 ▸ l22On_c _ _ _ x ys _ _ (hs.e0 hX) hm hm1 hxo (areR_works g1), ?_⟩; intro w4 e4; have z4 := cutLe e4; clear hX; replace hown := hown.e0 e4; replace hout := hout.e0 e4)
        | ((with_reducible intro w3 e3); have z3 := cutLe e3; replace hown := hown.ext e3 (by first | exact fun _ _ h => h | (intro k hk h; have hh := oL k hk; simp only [bk] at h; omega)); replace hout := hout.ext e3 (by first | exact fun _ _ h => h | (intro k hk h; have hh := oO k hk; simp only [bk] at h; omega)))
        | ((with_reducible refine BIF.dec ?_ ?_) <;> intro _)
        | ((with_reducible refine BIF.s ?_ ?_) <;> intro _)
        | (with_reducible refine NEXTK.normal ?_)
        | (with_reducible refine NEXTK.ret ?_)
        | (with_reducible refine NEXTK.exit ?_)
        | (with_reducible refine SEQ.plain ?_)
        | (with_reducible refine hK _ _ ?_)
        | ((with_reducible refine RUNL.agg (fun _ => ?_) ?_); (focus kernel_rfl))
        | (with_reducible refine RUNL.run ?_)
        | ((with_reducible refine AR.ok ?_ ?_); exact ⟨by first | omega | (dsimp only; omega), by first | omega | (dsimp only; omega)⟩)
        | (with_reducible refine AR.wr ?_)
        | ((with_reducible intro w3 e3); try have z3 := cutLe e3)
        | ((with_reducible intro h3); have h4 := Nat.le_of_lt h3; clear h4)))
      conv => whnf
      obtain ⟨s3, hs3⟩ : ∃ s3, s3 = w3.heap.size := ⟨_, rfl⟩
      refine LOOP.mk Nat (fun k => [(12, .v (.int .i64 k))]) (fun k wv => k ≤ L.length ∧ s3 ≤ wv.heap.size ∧ (∀ y ∈ L.drop k, gradeD y < gradeD z) ∧ Own wv s9 42 4 (.slice p L.length e) (L.map encDmg) ∧ Own wv w.heap.size 3 1 (.slice (some ⟨w.heap.size, 0, none⟩) 0 0) (([] : List Int).map encI)) (fun k => k) L.length rfl ⟨rfl, trivial⟩ ⟨Nat.le_refl _, Nat.le_of_eq hs3, by rw [List.drop_length]; intro y hy; simp at hy, hown, hout⟩ ?_
      clear hown hout
      rintro k wv - ⟨hk, hzv, hgr, hown, hout⟩
      dsimp only
      have hyk : ∃ y, okD y = true ∧ (0 < k → L[k - 1]? = some y) := by
        rcases Nat.eq_zero_or_pos k with h0 | h0
        · exact ⟨z, hzo, fun h => by omega⟩
        · obtain ⟨y, hy⟩ : ∃ y, L[k - 1]? = some y := ⟨L[k - 1]'(by omega), by simp⟩
          exact ⟨y, hLo y (List.mem_of_getElem? hy), fun _ => hy⟩
      obtain ⟨y, hyo, hyk⟩ := hyk
      have oL2 := fun k h => hown.block (k := k) h
      have oO2 := fun k h => hout.block (k := k) h
      have hrl := hown.row.2
      have hle := hown.rowx
      conv => whnf
      repeat (first | ((with_reducible refine NEXTK.normal ?_); conv => whnf) | ((with_reducible refine NEXTK.exit ?_); conv => whnf) | ((with_reducible refine NEXTK.ret ?_); conv => whnf) | ((with_reducible refine SEQ.plain ?_); conv => whnf) | ((with_reducible refine AR.ok ?_ ?_); exact ⟨by omega, by omega⟩; conv => whnf))
      refine DRAW.quietE (by kernel_rfl) (by kernel_rfl) ?_
      repeat (any_goals (
        conv => whnf
        first
        | ((with_reducible refine BIF.dec (fun (hk0 : 0 < (k : Int)) => ?_) (fun hk0 => ?_)))
        | ((with_reducible refine OBL.mk ?_ (fun _ => ?_)); (have his2 := hown.row.1.isSome (by simp; omega)); exact ⟨by omega, by omega, his2⟩)
        | ((with_reducible refine ELD.atNow (enc := encDmg) (xs := L) (k - 1) hown.row.1 ?_ ?_ (fun y' hy' => ?_)); (first | rfl | omega); omega; obtain rfl : y = y' := by (rw [hyk (by omega)] at hy'; exact Option.some.inj hy'))
        | ((with_reducible refine callQX (g := 42) ?_ ?_); kernel_rfl; refine ⟨_, fun w8 _ hX => l22Grade_c _ _ (by first | exact hyo | exact hzo), ?_⟩)
        | ((with_reducible refine BIF.dec (fun (hlg : gradeD y < gradeD z) => ?_) (fun hlg => ?_)))
        | ((with_reducible intro w7 e7); have z7 := cutLe e7; replace hown := hown.e0 e7; replace hout := hout.e0 e7)
        | ((with_reducible refine DRAW.plan (id := 12) (.one 1 (.one 2 (.one 3 (.one 8 (.one 9 (.one 10 (.start (.alt 0 (.start (.alt 4 (.start (.alt 5 (.start (.alt 6 (.start (.alt 7 (.start (.alt 11 (.one 12 .done) .stop)) .stop)) .stop)) .stop)) (.alt 5 (.start (.alt 4 (.start (.alt 6 (.start (.alt 7 (.start (.alt 11 (.one 12 .done) .stop)) .stop)) .stop)) (.alt 6 (.start (.alt 4 (.start (.alt 7 (.start (.alt 11 (.one 12 .done) .stop)) .stop)) .stop)) .stop))) .stop))) (.alt 5 (.start (.alt 0 (.start (.alt 4 (.start (.alt 6 (.start (.alt 7 (.start (.alt 11 (.one 12 .done) .stop)) .stop)) .stop)) (.alt 6 (.start (.alt 4 (.start (.alt 7 (.start (.alt 11 (.one 12 .done) .stop)) .stop)) .stop)) .stop))) (.alt 6 (.start (.alt 0 (.start (.alt 4 (.start (.alt 7 (.start (.alt 11 (.one 12 .done) .stop)) .stop)) .stop)) .stop)) .stop))) .stop))))))))) ?_ ?_ ?_ ?_); kernel_rfl; kernel_rfl; kernel_rfl)
        | (with_reducible refine And.intro ?_ ?_)
        | (exact True.intro)
        | ((with_reducible refine bsS elemDmg [] rfl rfl (by simp) (by omega) (fun w9 e9 oC => ?_)); have z9 := cutLe e9; (try have apBC := oB.apart oC); replace hown := hown.e0 e9; replace hout := hout.e0 e9; (try replace oB := oB.e0 e9))
        | ((with_reducible refine bsS elemDmg [.agg (encDmg z).toArray] ?_ ?_ ?_ ?_ ?_); (focus rfl); (focus rfl); (focus (intro v hv; simp at hv; subst hv; rfl)); (focus omega); intro w9 e9 oB; have z9 := cutLe e9; (try have apCB := oC.apart oB); replace hown := hown.e0 e9; replace hout := hout.e0 e9; (try replace oC := oC.e0 e9); (try replace o2 := o2.e0 e9))
        | ((with_reducible refine OBL.mk ?_ (fun _ => ?_)); (focus omega))
        | ((with_reducible refine apS (ns := (L.take k).map encDmg) elemDmg oC ?_ ?_ ?_ ?_ ?_ ?_ (fun v2 w2 x2 o2 => ?_)); (focus exact rowPre hown.row.1 (by omega)); (focus (simp; omega)); (focus exact (by intro l hl; obtain ⟨x, -, rfl⟩ := List.mem_map.1 hl; rfl)); (focus exact ⟨by simp; omega, by simp; omega⟩); (focus exact ⟨(by show w.heap.size ≤ _; omega), by omega⟩); (focus exact ⟨fun h => by have := (oC.block h).1; dsimp only at this; omega, trivial⟩); have z2 := cutLe x2; (try replace oB := oB.past x2 (by first | exact apBC | exact ne_symm' apCB)); have oK := fun k h => oC.block (k := k) h; replace hown := hown.past x2 (fun k h1 h2 => by have := (oL2 k h1).2; have := (oK k h2).1; omega); replace hout := hout.past x2 (fun k h1 h2 => by have := (oO2 k h1).2; have := (oK k h2).1; omega); clear oC; replace o2 : Own w2 wv.heap.size 42 4 v2 ((L.take k).map encDmg) := (by simpa using o2.lo (by omega)); obtain ⟨b2, d2, rfl, q2, p2⟩ := o2.rowx)
        | ((with_reducible refine apS (ns := [encDmg z]) elemDmg o2 ?_ ?_ ?_ ?_ ?_ ?_ (fun v5 w5 x5 o5 => ?_)); (focus exact oB.row.1); (focus rfl); (focus (intro l hl; simp at hl; subst hl; rfl)); (focus exact ⟨by simp; omega, by simp; omega⟩); (focus exact ⟨by show w.heap.size ≤ _; omega, by omega⟩); (focus exact ⟨fun h => by have := (o2.block h).1; dsimp only at this; omega, trivial⟩); have z5 := cutLe x5; have oK2 := fun k h => o2.block (k := k) h; replace hown := hown.past x5 (fun k h1 h2 => by have := (oL2 k h1).2; have := (oK2 k h2).1; omega); replace hout := hout.past x5 (fun k h1 h2 => by have := (oO2 k h1).2; have := (oK2 k h2).1; omega); clear o2; replace o5 : Own w5 wv.heap.size 42 4 v5 ((L.take k ++ [z]).map encDmg) := (by simpa using o5); obtain ⟨b5, d5, rfl, q5, p5⟩ := o5.rowx)
        | ((with_reducible refine apS (ns := (L.drop k).map encDmg) elemDmg o5 ?_ ?_ ?_ ?_ ?_ ?_ (fun v6 w6 x6 o6 => ?_)); (focus exact rowSuf hown.row.1 (by omega)); (focus (first | (simp; done) | (simp; omega))); (focus exact (by intro l hl; obtain ⟨x, -, rfl⟩ := List.mem_map.1 hl; rfl)); (focus exact ⟨by simp; omega, by simp; omega⟩); (focus exact ⟨by show w.heap.size ≤ _; omega, by omega⟩); (focus exact ⟨fun h => by have := (o5.block h).1; dsimp only at this; omega, trivial⟩); have z6 := cutLe x6; have oK5 := fun k h => o5.block (k := k) h; replace hout := hout.past x6 (fun k h1 h2 => by have := (oO2 k h1).2; have := (oK5 k h2).1; omega); clear o5; replace o6 : Own w6 wv.heap.size 42 4 v6 ((L.take k ++ z :: L.drop k).map encDmg) := (by simpa using o6); obtain ⟨b6, d6, rfl, q6, p6⟩ := o6.rowx)
        | ((with_reducible refine BIF.dec ?_ ?_) <;> intro _)
        | ((with_reducible refine BIF.s ?_ ?_) <;> intro _)
        | (with_reducible refine NEXTK.normal ?_)
        | (with_reducible refine NEXTK.ret ?_)
        | (with_reducible refine NEXTK.exit ?_)
        | (with_reducible refine SEQ.plain ?_)
        | (with_reducible refine hK _ _ ?_)
        | ((with_reducible refine RUNL.agg (fun _ => ?_) ?_); (focus kernel_rfl))
        | (with_reducible refine RUNL.run ?_)
        | ((with_reducible refine AR.ok ?_ ?_); exact ⟨by first | omega | (dsimp only; omega), by first | omega | (dsimp only; omega)⟩)
        | (with_reducible refine AR.wr ?_)
        | ((with_reducible intro w3 e3); try have z3 := cutLe e3)
        | ((with_reducible intro h3); have h4 := Nat.le_of_lt h3; clear h4)))
      all_goals first
        | (refine ⟨k - 1, rfl, ⟨by simp [lk, Nat.beq]; omega, trivial⟩, rfl, rfl, ⟨by omega, by show s3 ≤ w7.heap.size; omega, ?_, hown, hout⟩, by omega⟩
           intro u hu
           obtain ⟨i, hi⟩ := List.mem_iff_getElem?.1 hu
           rw [List.getElem?_drop] at hi
           rcases Nat.eq_zero_or_pos i with h0 | h0
           · subst h0
             rw [Nat.add_zero, hyk (by omega)] at hi
             cases hi; assumption
           · exact hgr u (List.mem_iff_getElem?.2 ⟨i - 1, by rw [List.getElem?_drop, ← hi]; congr 1; omega⟩))
        | skip
      all_goals
        have hins : insK gk L z = L.take k ++ z :: L.drop k := by
          refine insK_at gk k hk hLa.1 (fun u hu => ?_) (fun u h0 hu => ?_)
          · have h1 := hgr u hu
            rw [← gradeW_ok hzo, ← gradeW_ok (hLo u (List.mem_of_mem_drop hu))] at h1
            unfold gk; omega
          · have h2 := hyk h0
            rw [h2] at hu
            cases hu
            have h1 : ¬ gradeD y < gradeD z := by first | assumption | (exfalso; omega)
            rw [← gradeW_ok hzo, ← gradeW_ok hyo] at h1
            unfold gk; omega
        replace o6 := o6.lo (lo' := s9) (by omega)
        refine ⟨(j + 1, (b6, _, d6)), rfl, ⟨rfl, rfl, trivial⟩, rfl, rfl, ⟨by simp only; omega, by show s9 ≤ w6.heap.size; omega, by simp only; rw [hnext, hins]; exact o6, hout⟩, by simp only; omega⟩
    · have hkj : j = xs.length := by omega
      have hzs : L = worstL xs ys := by rw [hL, hkj, List.take_length]; rfl
      clear oL oO
      repeat (any_goals (
        conv => whnf
        first
        | ((with_reducible refine BIF.dec ?_ ?_) <;> intro _)
        | ((with_reducible refine BIF.s ?_ ?_) <;> intro _)
        | (with_reducible refine NEXTK.normal ?_)
        | (with_reducible refine NEXTK.ret ?_)
        | (with_reducible refine NEXTK.exit ?_)
        | (with_reducible refine SEQ.plain ?_)
        | (with_reducible refine hK _ _ ?_)
        | ((with_reducible refine RUNL.agg (fun _ => ?_) ?_); (focus kernel_rfl))
        | (with_reducible refine RUNL.run ?_)
        | ((with_reducible refine AR.ok ?_ ?_); exact ⟨by first | omega | (dsimp only; omega), by first | omega | (dsimp only; omega)⟩)
        | (with_reducible refine AR.wr ?_)
        | ((with_reducible intro w3 e3); try have z3 := cutLe e3)
        | ((with_reducible intro h3); have h4 := Nat.le_of_lt h3; clear h4)))
      conv => whnf
      refine LOOP.mk (Nat × (Option Addr × Nat × Nat)) (fun g => [(13, .v (.int .i64 g.1)), (8, .v (.slice g.2.1 g.2.2.1 g.2.2.2))])
        (fun g wv => g.1 ≤ min t.toNat L.length ∧ w.heap.size ≤ wv.heap.size ∧ Own wv w.heap.size 3 1 (.slice g.2.1 g.2.2.1 g.2.2.2) (((L.take g.1).map (·.fSheet)).map encI) ∧ Own wv s9 42 4 (.slice p L.length e) (L.map encDmg) ∧ (∀ k, (Value.slice g.2.1 g.2.2.1 g.2.2.2).ownBlock = some k → ¬ (Value.slice p L.length e).ownBlock = some k)) (fun g => min t.toNat L.length - g.1) (0, (some ⟨w.heap.size, 0, none⟩, 0, 0)) rfl ⟨rfl, rfl, trivial⟩ ⟨Nat.zero_le _, by show w.heap.size ≤ wr.heap.size; omega, hout, hown, ?_⟩ ?_
      · intro k h1 h2
        have h3 := (hown.block h2).1
        have h4 : w.heap.size = k := by simpa [Value.ownBlock] using h1
        omega
      clear hout hown
      rintro ⟨k, ⟨p3, q3, e3'⟩⟩ wv - ⟨hk, hz2, hout, hsrt, hap⟩
      simp only at hk hz2 hout hsrt hap
      dsimp only
      have oL2 := fun k h => hout.block (k := k) h
      have oS2 := fun k h => hsrt.block (k := k) h
      have hml2 := hout.row.2
      rw [List.length_map, List.length_map, List.length_take] at hml2
      by_cases hgo : k < L.length ∧ (k : Int) < t
      · have his := hsrt.row.1.isSome (by simp; omega)
        obtain ⟨x, hx⟩ : ∃ x, L[k]? = some x := ⟨L[k]'(by omega), by simp⟩
        repeat (any_goals (
          conv => whnf
          first
          | ((with_reducible refine BIF.dec ?_ ?_) <;> intro _)
          | ((exfalso; omega))
          | ((with_reducible refine OBL.mk ?_ (fun _ => ?_)); exact ⟨by first | omega | (dsimp only; omega), by first | omega | (dsimp only; omega), his⟩)
          | ((with_reducible refine ELD.atNow (enc := encDmg) (xs := L) (k) hsrt.row.1 ?_ ?_ (fun x' hx' => ?_)); (first | rfl | omega); omega; obtain rfl : x = x' := by (rw [hx] at hx'; exact Option.some.inj hx'))
          | ((with_reducible refine bsS elemI [.int .i64 x.fSheet] ?_ ?_ ?_ ?_ ?_); (focus rfl); (focus rfl); (focus (intro v hv; simp at hv; subst hv; rfl)); (focus omega); intro w9 e9 oB; have z9 := cutLe e9)
          | ((with_reducible refine BIF.dec ?_ ?_) <;> intro _)
          | ((with_reducible refine BIF.s ?_ ?_) <;> intro _)
          | (with_reducible refine NEXTK.normal ?_)
          | (with_reducible refine NEXTK.ret ?_)
          | (with_reducible refine NEXTK.exit ?_)
          | (with_reducible refine SEQ.plain ?_)
          | (with_reducible refine hK _ _ ?_)
          | ((with_reducible refine RUNL.agg (fun _ => ?_) ?_); (focus kernel_rfl))
          | (with_reducible refine RUNL.run ?_)
          | ((with_reducible refine AR.ok ?_ ?_); exact ⟨by first | omega | (dsimp only; omega), by first | omega | (dsimp only; omega)⟩)
          | (with_reducible refine AR.wr ?_)
          | ((with_reducible intro w3 e3); try have z3 := cutLe e3)
          | ((with_reducible intro h3); have h4 := Nat.le_of_lt h3; clear h4)))
        conv => whnf
        replace hout := hout.e0 e9
        replace hsrt := hsrt.e0 e9
        have ez : s9 ≤ s9 := Nat.le_refl _
        refine apS (ns := [encI x.fSheet]) elemI hout oB.row.1 rfl (by intro l hl; simp at hl; subst hl; rfl) ⟨by simp; omega, by simp; omega⟩ ⟨(by show w.heap.size ≤ _; omega), by omega⟩ trivial (fun v2 w2 x2 o2 => ?_)
        have z2 := cutLe x2
        replace hsrt := hsrt.past x2 (fun k h1 h2 => hap k h2 h1)
        replace o2 : Own w2 w.heap.size 3 1 v2 (((L.take (k + 1)).map (·.fSheet)).map encI) := by rw [List.take_add_one, hx]; simpa using o2
        obtain ⟨b2, d2, rfl, q2, p2⟩ := o2.rowx
        have hap2 : ∀ k', (Value.slice b2 ((L.take (k + 1)).map (·.fSheet)).length d2).ownBlock = some k' → ¬ (Value.slice p L.length e).ownBlock = some k' := by
          intro k' h1 h2
          obtain ⟨ga, ca, ha, -, ha2, -⟩ := o2.heap (by simp; omega)
          obtain ⟨gb, cb, hb, -, hb2, -⟩ := hsrt.heap (by simp; omega)
          subst ha hb
          have e1 : ga = k' := by simpa [Value.ownBlock] using h1
          have e2 : gb = k' := by simpa [Value.ownBlock] using h2
          rw [e1] at ha2
          rw [e2, ha2] at hb2
          cases hb2
        repeat (any_goals (
          conv => whnf
          first
          | ((with_reducible refine BIF.dec ?_ ?_) <;> intro _)
          | ((with_reducible refine BIF.s ?_ ?_) <;> intro _)
          | (with_reducible refine NEXTK.normal ?_)
          | (with_reducible refine NEXTK.ret ?_)
          | (with_reducible refine NEXTK.exit ?_)
          | (with_reducible refine SEQ.plain ?_)
          | (with_reducible refine hK _ _ ?_)
          | ((with_reducible refine RUNL.agg (fun _ => ?_) ?_); (focus kernel_rfl))
          | (with_reducible refine RUNL.run ?_)
          | ((with_reducible refine AR.ok ?_ ?_); exact ⟨by first | omega | (dsimp only; omega), by first | omega | (dsimp only; omega)⟩)
          | (with_reducible refine AR.wr ?_)
          | ((with_reducible intro w3 e3); try have z3 := cutLe e3)
          | ((with_reducible intro h3); have h4 := Nat.le_of_lt h3; clear h4)))
        refine ⟨(k + 1, (b2, _, d2)), rfl, ⟨rfl, rfl, trivial⟩, rfl, rfl, ⟨by simp only; omega, by show w.heap.size ≤ w2.heap.size; omega, o2, hsrt, hap2⟩, by simp only; omega⟩
      · have hkv : k = min t.toNat L.length := by omega
        have hfin : (L.take k).map (·.fSheet) = ((worstL xs ys).take t.toNat).map (·.fSheet) := by
          rw [hkv, ← hzs]
          congr 1
          rcases Nat.le_total t.toNat L.length with h | h
          · rw [Nat.min_eq_left h]
          · rw [Nat.min_eq_right h, List.take_length, List.take_of_length_le h]
        rw [hfin] at hout
        repeat (any_goals (
          conv => whnf
          first
          | ((with_reducible refine BIF.dec ?_ ?_) <;> intro _)
          | ((exfalso; omega))
          | ((with_reducible refine BIF.dec ?_ ?_) <;> intro _)
          | ((with_reducible refine BIF.s ?_ ?_) <;> intro _)
          | (with_reducible refine NEXTK.normal ?_)
          | (with_reducible refine NEXTK.ret ?_)
          | (with_reducible refine NEXTK.exit ?_)
          | (with_reducible refine SEQ.plain ?_)
          | (with_reducible refine hK _ _ ?_)
          | ((with_reducible refine RUNL.agg (fun _ => ?_) ?_); (focus kernel_rfl))
          | (with_reducible refine RUNL.run ?_)
          | ((with_reducible refine AR.ok ?_ ?_); exact ⟨by first | omega | (dsimp only; omega), by first | omega | (dsimp only; omega)⟩)
          | (with_reducible refine AR.wr ?_)
          | ((with_reducible intro w3 e3); try have z3 := cutLe e3)
          | ((with_reducible intro h3); have h4 := Nat.le_of_lt h3; clear h4)))
        all_goals
          intro hx'
          rw [worstP_good g1 g2]
          exact ⟨_, rfl, hx', _, rfl, hout⟩
  · repeat (any_goals (
      conv => whnf
      first
      | ((with_reducible refine bsS elemI [] rfl rfl (by simp) (by omega) (fun w9 e9 o9 => ?_)); have z9 := cutLe e9)
      | ((with_reducible refine callF (g := 33) ?_ ?_); kernel_rfl; refine ⟨_, l22Good_c _ _ _ _ _ _ xs ys _ (by repeat (first | assumption | refine Row.e0 ?_ (by assumption))) (by repeat (first | assumption | refine Row.e0 ?_ (by assumption))) hn hm hn1 hm1 hc, ?_⟩; intro w4 e4; have z4 := cutLe e4)
      | ((with_reducible refine callF (g := 40) ?_ ?_); kernel_rfl; refine ⟨_, l1In_c _ _ _ _, ?_⟩; intro w4 e4; have z4 := cutLe e4)
      | ((exfalso; clear hK; simp_all; done))
      | ((with_reducible refine BIF.dec ?_ ?_) <;> intro _)
      | ((with_reducible refine BIF.s ?_ ?_) <;> intro _)
      | (with_reducible refine NEXTK.normal ?_)
      | (with_reducible refine NEXTK.ret ?_)
      | (with_reducible refine NEXTK.exit ?_)
      | (with_reducible refine SEQ.plain ?_)
      | (with_reducible refine hK _ _ ?_)
      | ((with_reducible refine RUNL.agg (fun _ => ?_) ?_); (focus kernel_rfl))
      | (with_reducible refine RUNL.run ?_)
      | ((with_reducible refine AR.ok ?_ ?_); exact ⟨by first | omega | (dsimp only; omega), by first | omega | (dsimp only; omega)⟩)
      | (with_reducible refine AR.wr ?_)
      | ((with_reducible intro w3 e3); try have z3 := cutLe e3)
      | ((with_reducible intro h3); have h4 := Nat.le_of_lt h3; clear h4)))
    all_goals
      intro hx'
      rw [worstP_bad hg]
      exact ⟨_, rfl, hx', _, rfl, (by clear hx'; repeat (first | exact o9 | exact o9.lo (by omega) | refine Own.e0 ?_ (by assumption)))⟩

end Go.Proofs.YtgopcppegjhmiaaDoor

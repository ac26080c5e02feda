/- AreEntries. -/
import Derived.Test.YtpddilkonkkppaaGreatDoorRows
import Derived.Test.YtpddilkonkkppaaGreatDoorMerge2
namespace Go.Proofs.YtpddilkonkkppaaGreatDoor
open Go Go.X Go.Proofs Go.ChangeShapes Go.WideShapes Go.ChangeAt Go.RowKit
open Go.ChangeMaps (open_string shut_string)
set_option maxHeartbeats 1000000
set_option maxRecDepth 20000
set_option linter.unusedVariables false
set_option linter.unusedSimpArgs false
theorem rowSufT {w : World} {p : Option Addr} {L : List Tri} {i : Int} {k e : Nat} (h : Row w p 6 (L.map encT)) (hi : i = k) (hk : (L.length : Int) ≤ e) : Row w (if (e : Int).toNat = i.toNat then p else p.map (·.add (i.toNat * 6))) 6 ((L.drop k).map encT) := by
  subst hi
  have := h.sub (k : Int) (L.length : Int) (e : Int) hk
  simp only [Int.toNat_natCast] at this ⊢
  rw [List.take_of_length_le (by simp)] at this
  exact this
theorem AreEntries_c (a : Option Addr) (n c : Nat) (ts : List Tri) (w : World) (hr : Row w a 6 (ts.map encT)) (hs : SeenAt w ts) (hn : ts.length = n) (hm : n ≤ 1048577) (hc : n ≤ c) (hz : ∀ t ∈ ts, t.1.fSeen.length ≤ 1048577) :
    Calls Tryz.prog 19 #[.slice a n c] w fun e w' => e = .returned (.bool (areE (ts.map (·.1)))) ∧ E0 w w' := by
  refine enterK Non 57 Tryz.func19 rfl rfl rfl fun K hK => ?_
  conv => whnf
  repeat (first | ((with_reducible refine NEXTK.normal ?_); conv => whnf) | ((with_reducible refine NEXTK.exit ?_); conv => whnf) | ((with_reducible refine NEXTK.ret ?_); conv => whnf) | ((with_reducible refine SEQ.plain ?_); conv => whnf) | ((with_reducible refine AR.ok ?_ ?_); exact ⟨by omega, by omega⟩; conv => whnf))
  refine LOOP.mk Nat (fun k => [(9, .v (.int .i64 k))]) (fun k wr => k ≤ n ∧ eUp (ts.map (·.1)) k = true) (fun k => n - k) 0 rfl ⟨rfl, trivial⟩ ⟨Nat.zero_le _, rfl⟩ ?_
  rintro k wr hX0 ⟨hk, ho⟩
  conv => whnf
  repeat (first | ((with_reducible refine NEXTK.normal ?_); conv => whnf) | ((with_reducible refine NEXTK.exit ?_); conv => whnf) | ((with_reducible refine NEXTK.ret ?_); conv => whnf) | ((with_reducible refine SEQ.plain ?_); conv => whnf) | ((with_reducible refine AR.ok ?_ ?_); exact ⟨by omega, by omega⟩; conv => whnf))
  refine BIF.dec (fun hlt => ?_) (fun hlt => ?_)
  · have hlt1 : k < ts.length := by omega
    have his := hr.isSome (by simp; omega)
    obtain ⟨t, ht⟩ : ∃ t, ts[k]? = some t := ⟨ts[k], by simp⟩
    have hmt := List.mem_of_getElem? ht
    have hzt := hz t hmt
    have hlen : (ts.map (·.1)).length = n := by rw [List.length_map]; exact hn
    repeat (any_goals (
      conv => whnf
      first
      | ((with_reducible refine OBL.mk ?_ (fun _ => ?_)); exact ⟨by first | omega | (dsimp only; omega), by first | omega | (dsimp only; omega), his⟩)
      | ((with_reducible refine ELD.at (k) hr ?_ ?_ ?_ (fun x' hx' => ?_)); exact mAddr_Non _; (first | rfl | omega); exact hlt1; obtain rfl : t = x' := by (rw [ht] at hx'; exact Option.some.inj hx'))
      | ((with_reducible refine DRAW.quietE ?_ ?_ ?_); kernel_rfl; kernel_rfl)
      | ((with_reducible refine callQX (g := 45) ?_ ?_); kernel_rfl; refine ⟨_, fun w' e' hX => IsEntry_c t w' ((hs t hmt).ext hX (mAddr_Non _)) hzt, ?_⟩)
      | ((with_reducible refine ELD.at (enc := encT) (xs := ts) (k - 1) hr ?_ ?_ ?_ (fun y hy => ?_)); exact mAddr_Non _; (focus omega); (focus omega))
      | ((with_reducible refine BIF.dec ?_ ?_) <;> intro _)
      | ((with_reducible refine BIF.dec ?_ ?_) <;> intro _)
      | ((with_reducible refine BIF.s ?_ ?_) <;> intro _)
      | (with_reducible refine NEXTK.normal ?_)
      | (with_reducible refine NEXTK.ret ?_)
      | (with_reducible refine NEXTK.exit ?_)
      | (with_reducible refine SEQ.plain ?_)
      | (with_reducible refine hK _ _ ?_)
      | ((with_reducible refine RUNL.agg (fun _ => ?_) ?_); (focus kernel_rfl))
      | (with_reducible refine RUNL.run ?_)
      | ((with_reducible refine AR.ok ?_ ?_); exact ⟨by first | omega | (dsimp only; omega), by first | omega | (dsimp only; omega)⟩)
      | (with_reducible refine AR.wr ?_)
      | ((with_reducible intro w3 e3); try have z3 := cutLe e3)
      | ((with_reducible intro h3); have h4 := Nat.le_of_lt h3; clear h4)))
    all_goals first
      | (intro hw
         refine ⟨?_, hw⟩
         have hgf : gAtE (ts.map (·.1)) k = false := by
           unfold gAtE
           rw [fst_at ht]
           simp_all
         rw [areE_false (k := k) (by omega) (by unfold eAt; rw [hgf]; rfl)]; rfl)
      | (intro hw
         refine ⟨?_, hw⟩
         have hgf : gAtE (ts.map (·.1)) k = false := by
           rw [gAtE_get (by omega) (fst_at ht) (fst_at hy)]
           simp; omega
         rw [areE_false (k := k) (by omega) (by unfold eAt; rw [hgf]; rfl)]; rfl)
      | (have hok : okE t.1 = true := by
           clear hK
           simp_all
         have hg : gAtE (ts.map (·.1)) k = true := by
           by_cases hk0 : k = 0
           · subst hk0
             rw [gAtE_zero (fst_at ht)]; exact hok
           · first
             | (exfalso; omega)
             | (rw [gAtE_get (by omega) (fst_at ht) (fst_at hy), hok]; simp; omega)
         conv => whnf
         refine LOOP.mk Nat (fun q => [(35, .v (.int .i64 q))]) (fun q ws => q ≤ t.1.fSeen.length ∧ (t.1.fSeen.take q).all (seenAt (ts.map (·.1)) k) = true) (fun q => t.1.fSeen.length - q) 0 rfl ⟨rfl, trivial⟩ ⟨Nat.zero_le _, rfl⟩ ?_
         rintro q ws hX1 ⟨hq, hall⟩
         conv => whnf
         repeat (first | ((with_reducible refine NEXTK.normal ?_); conv => whnf) | ((with_reducible refine NEXTK.exit ?_); conv => whnf) | ((with_reducible refine NEXTK.ret ?_); conv => whnf) | ((with_reducible refine SEQ.plain ?_); conv => whnf) | ((with_reducible refine AR.ok ?_ ?_); exact ⟨by omega, by omega⟩; conv => whnf))
         refine BIF.dec (fun hlt2 => ?_) (fun hlt2 => ?_)
         · have hq1 : q < t.1.fSeen.length := by omega
           obtain ⟨s, hs1⟩ : ∃ s, t.1.fSeen[q]? = some s := ⟨t.1.fSeen[q], by simp⟩
           have hrt := hs t hmt
           have hist := hrt.isSome (by simp; omega)
           repeat (any_goals (
             conv => whnf
             first
             | ((with_reducible refine OBL.mk ?_ (fun _ => ?_)); exact ⟨by first | omega | (dsimp only; omega), by first | omega | (dsimp only; omega), hist⟩)
             | ((with_reducible refine ELD.at (q) hrt ?_ ?_ ?_ (fun x' hx' => ?_)); exact mAddr_Non _; (first | rfl | omega); exact hq1; obtain rfl : s = x' := by (rw [hs1] at hx'; exact Option.some.inj hx'))
             | ((with_reducible refine callX (g := 46) ?_ ?_); kernel_rfl; intro hX; refine ⟨_, entryOf_c _ _ _ ts s _ (hr.ext hX (mAddr_Non _)) (fun u hu => (hs u hu).ext hX (mAddr_Non _)) hn hm hz, ?_⟩; intro w4 e4; have z4 := cutLe e4)
             | ((with_reducible refine BIF.bne ?_ ?_) <;> intro hidx)
             | ((with_reducible refine OBL.mk ?_ (fun _ => ?_)); (focus omega))
             | ((with_reducible refine RUN.mk (fun _ => rfl) ?_))
             | ((with_reducible refine callXB (g := 47) ?_ ?_); kernel_rfl; intro hX hbx; refine ⟨_, ContainsFuncT_c (fun u => knowsB s u.1) _ _ _ (ts.drop (k + 1)) _ _ _ (rowSufT (hr.ext hX (mAddr_Non _)) (by omega) (by omega)) (by rw [List.length_drop]; omega) (by omega) (by kernel_rfl) (fun u hu w' e => AreEntries1_c u s _ _ ((Boxes.row hbx 1 _ _ _ rfl).e0 e) (((hs u (List.mem_of_mem_drop hu)).ext hX (mAddr_Non _)).e0 e) (hz u (List.mem_of_mem_drop hu))), ?_⟩; intro w4 e4; have z4 := cutLe e4)
             | ((with_reducible refine BIF.dec ?_ ?_) <;> intro _)
             | ((with_reducible refine BIF.s ?_ ?_) <;> intro _)
             | (with_reducible refine NEXTK.normal ?_)
             | (with_reducible refine NEXTK.ret ?_)
             | (with_reducible refine NEXTK.exit ?_)
             | (with_reducible refine SEQ.plain ?_)
             | (with_reducible refine hK _ _ ?_)
             | ((with_reducible refine RUNL.agg (fun _ => ?_) ?_); (focus kernel_rfl))
             | (with_reducible refine RUNL.run ?_)
             | ((with_reducible refine AR.ok ?_ ?_); exact ⟨by first | omega | (dsimp only; omega), by first | omega | (dsimp only; omega)⟩)
             | (with_reducible refine AR.wr ?_)
             | ((with_reducible intro w3 e3); try have z3 := cutLe e3)
             | ((with_reducible intro h3); have h4 := Nat.le_of_lt h3; clear h4)))
           all_goals
             have hany : ((ts.map (·.1)).drop (k + 1)).any (knowsB s) = (ts.drop (k + 1)).any (fun u => knowsB s u.1) := by rw [← List.map_drop, List.any_map]; rfl
             have hse : seenAt (ts.map (·.1)) k s = (decide (idxP (knowsB s) (ts.map (·.1)) = k) && !(ts.drop (k + 1)).any (fun u => knowsB s u.1)) := by rw [seenAt, hany]
           all_goals first
             | (intro hw
                refine ⟨?_, hw⟩
                have hsf : seenAt (ts.map (·.1)) k s = false := by
                  rw [hse]
                  clear hK hbx
                  simp_all
                rw [areE_false (k := k) (by omega) (by
                  unfold eAt
                  rw [fst_at ht, Bool.and_eq_false_iff]
                  right
                  rw [List.all_eq_false]
                  exact ⟨s, List.mem_of_getElem? hs1, by rw [hsf]; simp⟩)]; rfl)
             | (intro hw
                refine ⟨?_, hw⟩
                have hsf : seenAt (ts.map (·.1)) k s = false := by
                  rw [hse]
                  clear hK
                  simp_all
                rw [areE_false (k := k) (by omega) (by
                  unfold eAt
                  rw [fst_at ht, Bool.and_eq_false_iff]
                  right
                  rw [List.all_eq_false]
                  exact ⟨s, List.mem_of_getElem? hs1, by rw [hsf]; simp⟩)]; rfl)
             | (refine ⟨q + 1, rfl, ⟨rfl, trivial⟩, rfl, rfl, ⟨by omega, ?_⟩, by omega⟩
                have hst : seenAt (ts.map (·.1)) k s = true := by
                  rw [hse]
                  clear hK hbx hse hany
                  generalize (ts.drop (k + 1)).any (fun u => knowsB s u.1) = A at *
                  simp_all
                rw [List.take_add_one, hs1, List.all_append, hall]
                simp [hst])
         · repeat (any_goals (
             conv => whnf
             first
             | ((with_reducible refine BIF.dec ?_ ?_) <;> intro _)
             | ((with_reducible refine BIF.s ?_ ?_) <;> intro _)
             | (with_reducible refine NEXTK.normal ?_)
             | (with_reducible refine NEXTK.ret ?_)
             | (with_reducible refine NEXTK.exit ?_)
             | (with_reducible refine SEQ.plain ?_)
             | (with_reducible refine hK _ _ ?_)
             | ((with_reducible refine RUNL.agg (fun _ => ?_) ?_); (focus kernel_rfl))
             | (with_reducible refine RUNL.run ?_)
             | ((with_reducible refine AR.ok ?_ ?_); exact ⟨by first | omega | (dsimp only; omega), by first | omega | (dsimp only; omega)⟩)
             | (with_reducible refine AR.wr ?_)
             | ((with_reducible intro w3 e3); try have z3 := cutLe e3)
             | ((with_reducible intro h3); have h4 := Nat.le_of_lt h3; clear h4)))
           refine ⟨k + 1, rfl, ⟨rfl, trivial⟩, rfl, rfl, ⟨by omega, ?_⟩, by omega⟩
           rw [List.take_of_length_le (by omega)] at hall
           rw [eUp_succ, ho, eAt, hg, fst_at ht]
           simpa using hall)
  · repeat (any_goals (
      conv => whnf
      first
      | ((with_reducible refine BIF.dec ?_ ?_) <;> intro _)
      | ((with_reducible refine BIF.s ?_ ?_) <;> intro _)
      | (with_reducible refine NEXTK.normal ?_)
      | (with_reducible refine NEXTK.ret ?_)
      | (with_reducible refine NEXTK.exit ?_)
      | (with_reducible refine SEQ.plain ?_)
      | (with_reducible refine hK _ _ ?_)
      | ((with_reducible refine RUNL.agg (fun _ => ?_) ?_); (focus kernel_rfl))
      | (with_reducible refine RUNL.run ?_)
      | ((with_reducible refine AR.ok ?_ ?_); exact ⟨by first | omega | (dsimp only; omega), by first | omega | (dsimp only; omega)⟩)
      | (with_reducible refine AR.wr ?_)
      | ((with_reducible intro w3 e3); try have z3 := cutLe e3)
      | ((with_reducible intro h3); have h4 := Nat.le_of_lt h3; clear h4)))
    intro hw
    refine ⟨?_, hw⟩
    have hlen : (ts.map (·.1)).length = n := by rw [List.length_map]; exact hn
    have hkn : k = n := by omega
    subst hkn
    simp only [resV, areE, hlen, ho, Bool.true_and]
    congr 3
    rw [eq_iff_iff]
    omega

end Go.Proofs.YtpddilkonkkppaaGreatDoor

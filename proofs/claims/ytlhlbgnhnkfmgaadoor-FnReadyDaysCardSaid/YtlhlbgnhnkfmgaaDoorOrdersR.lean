/- What the least rate and a ready day tell. -/
import Derived.Test.YtlhlbgnhnkfmgaaDoorRows
import Derived.Test.YtlhlbgnhnkfmgaaDoorOrdersP
import Derived.Test.YtlhlbgnhnkfmgaaDoorOrdersD
import Derived.Test.YtlhlbgnhnkfmgaaDoorOrders5
import Derived.Test.YtlhlbgnhnkfmgaaDoorOrders7
namespace Go.Proofs.YtlhlbgnhnkfmgaaDoor
open Go Go.X Go.Proofs Go.ChangeShapes Go.WideShapes Go.ChangeAt Go.RowKit
open Go.ChangeMaps (open_string shut_string)
set_option maxHeartbeats 1000000
set_option maxRecDepth 20000
set_option linter.unusedVariables false
set_option linter.unusedSimpArgs false
theorem least_law {xs : List Ord} {f d : Int} (h : (leastP xs f d).2 = true) :
    (madeP xs f d (leastP xs f d).1).2 = true ∧ (madeP xs f d (leastP xs f d).1).1.length = waitN xs xs.length ∧ (1 ≤ (leastP xs f d).1 ∧ (leastP xs f d).1 ≤ 100) ∧
    (1 < (leastP xs f d).1 → (madeP xs f d ((leastP xs f d).1 - 1)).2 = true ∧ (madeP xs f d ((leastP xs f d).1 - 1)).1.length < waitN xs xs.length) := by
  unfold leastP at h ⊢
  split at h
  · rename_i hc
    rw [if_pos hc]
    simp only [Bool.and_eq_true] at hc
    obtain ⟨hok, hin⟩ := hc
    have hok' := hok
    simp only [leastOk, Bool.and_eq_true, decide_eq_true_eq] at hok'
    obtain ⟨⟨⟨ha, hf⟩, hd⟩, hfd⟩ := hok'
    have hp := areO_pages ha
    have hr : 1 ≤ leastR xs f d ∧ leastR xs f d ≤ 100 := by simpa [inB] using hin
    dsimp only
    have hm : madeOk xs f d (leastR xs f d) = true := by simp [madeOk, ha, hf, hd, hfd, hin]
    refine ⟨by simp [madeP, hm], ?_, hr, fun h1 => ?_⟩
    · simp only [madeP, hm, if_true]
      exact (leastR_iff hp hr.1 hfd).2 (Int.le_refl _)
    · have hm1 : madeOk xs f d (leastR xs f d - 1) = true := by
        have : inB (leastR xs f d - 1) 1 100 = true := by simp [inB]; omega
        simp [madeOk, ha, hf, hd, hfd, this]
      refine ⟨by simp [madeP, hm1], ?_⟩
      simp only [madeP, hm1, if_true]
      have hle := (made_lt (q := leastR xs f d - 1) hp (by omega) hfd xs.length (Nat.le_refl _)).1
      have hne := fun e => (leastR_iff (q := leastR xs f d - 1) hp (by omega) hfd).1 e
      rcases Nat.lt_or_ge (madeUp xs f d (leastR xs f d - 1) xs.length).length (waitN xs xs.length) with h | h
      · exact h
      · have := hne (by omega)
        omega
  · cases h
theorem madeUp_mem (xs : List Ord) (f d q v : Int) : ∀ n, v ∈ madeUp xs f d q n ↔ ∃ (k : Nat) (x : Ord), k < n ∧ xs[k]? = some x ∧ isMade xs f d q k x = true ∧ x.fId = v
  | 0 => by simp [madeUp]
  | n + 1 => by
    simp only [madeUp, List.mem_append, madeUp_mem xs f d q v n]
    constructor
    · rintro (⟨k, x, h1, h2⟩ | h)
      · exact ⟨k, x, by omega, h2⟩
      · split at h
        · rename_i x hx
          split at h
          · rename_i hm
            exact ⟨n, x, by omega, hx, hm, (List.mem_singleton.1 h).symm⟩
          · cases h
        · cases h
    · rintro ⟨k, x, h1, h2, h3, h4⟩
      rcases Nat.lt_or_ge k n with h | h
      · exact .inl ⟨k, x, h, h2, h3, h4⟩
      · obtain rfl : k = n := by omega
        right
        simp [h2, h3, h4]
theorem ready_law {xs : List Ord} {id day rate : Int} (h : (readyP xs id day rate).2 = true) :
    (madeP xs day (readyP xs id day rate).1 rate).2 = true ∧ id ∈ (madeP xs day (readyP xs id day rate).1 rate).1 ∧ (0 ≤ (readyP xs id day rate).1 ∧ (readyP xs id day rate).1 ≤ 4000) ∧
    (day < (readyP xs id day rate).1 → (madeP xs day ((readyP xs id day rate).1 - 1) rate).2 = true ∧ ¬ id ∈ (madeP xs day ((readyP xs id day rate).1 - 1) rate).1) := by
  unfold readyP at h ⊢
  split at h
  · rename_i hc
    rw [if_pos hc]
    simp only [Bool.and_eq_true] at hc
    obtain ⟨⟨⟨hw, hd⟩, ht⟩, hr⟩ := hc
    dsimp only
    have ha : areO xs = true := by
      simp only [waitAt, Bool.and_eq_true] at hw; exact hw.1.1
    rcases idAt_spec xs id with hn | ⟨k, x, hk, hkl, hx, hxi⟩
    · simp [waitAt, hn] at hw
    · rw [hk] at hr ⊢
      simp only [Int.toNat_natCast] at hr ⊢
      rw [waitAt_good ha hk hx] at hw
      have hxr : x.fReady = -1 := of_decide_eq_true hw
      have hsb := waitSum_pos (areO_pages ha) hx hxr
      have hr' : 0 ≤ readyD xs k day rate ∧ readyD xs k day rate ≤ 4000 := by simpa [inB] using hr
      have ht' : 1 ≤ rate ∧ rate ≤ 100 := by simpa [inB] using ht
      have hd' : 0 ≤ day ∧ day ≤ 4000 := by simpa [inB] using hd
      have hle : day ≤ readyD xs k day rate := by
        unfold readyD
        have := Int.tdiv_nonneg (a := waitSum (xs.take (k + 1)) - 1) (b := rate) (by omega) (by omega)
        omega
      have hm : madeOk xs day (readyD xs k day rate) rate = true := by simp [madeOk, ha, hd, hr, hle, ht]
      refine ⟨by simp [madeP, hm], ?_, hr', fun h1 => ?_⟩
      · simp only [madeP, hm, if_true]
        exact (madeUp_mem xs day _ rate id xs.length).2 ⟨k, x, hkl, hx, by simp [isMade, hxr], hxi⟩
      · have hm1 : madeOk xs day (readyD xs k day rate - 1) rate = true := by
          have : inB (readyD xs k day rate - 1) 0 4000 = true := by simp [inB]; omega
          have h2 : day ≤ readyD xs k day rate - 1 := by omega
          simp [madeOk, ha, hd, this, h2, ht]
        refine ⟨by simp [madeP, hm1], ?_⟩
        simp only [madeP, hm1, if_true]
        intro hmem
        obtain ⟨j, y, hj, hy, hym, hyi⟩ := (madeUp_mem xs day _ rate id xs.length).1 hmem
        obtain rfl := areO_inj ha hy hx (by rw [hyi, hxi])
        simp only [isMade, Bool.and_eq_true, decide_eq_true_eq] at hym
        omega
  · cases h
theorem slow_go : ∀ (xs : List Ord) (g : Int × Int), g.2 ≤ (xs.foldl slowStep g).2 ∧ ∀ x ∈ xs, x.fReady ≠ -1 → x.fReady - x.fPlaced ≤ (xs.foldl slowStep g).2
  | [], g => ⟨Int.le_refl _, by simp⟩
  | x :: r, g => by
    obtain ⟨h1, h2⟩ := slow_go r (slowStep g x)
    rw [List.foldl_cons]
    have hs : g.2 ≤ (slowStep g x).2 ∧ (x.fReady ≠ -1 → x.fReady - x.fPlaced ≤ (slowStep g x).2) := by
      unfold slowStep
      split
      · rename_i hc
        exact ⟨by simp only; omega, fun _ => by simp only; omega⟩
      · rename_i hc
        exact ⟨Int.le_refl _, fun hx => by
          rcases Int.lt_or_le g.2 (x.fReady - x.fPlaced) with hl | hl
          · exact absurd ⟨hx, hl⟩ hc
          · exact hl⟩
    refine ⟨by omega, fun y hy hr => ?_⟩
    rcases List.mem_cons.1 hy with rfl | hy
    · have := hs.2 hr; omega
    · exact h2 y hy hr
theorem slow_law {xs : List Ord} (h : (slowP xs).2.2 = true) : areO xs = true ∧ ∀ x ∈ xs, 0 ≤ x.fReady → x.fReady - x.fPlaced ≤ (slowP xs).2.1 := by
  unfold slowP at h ⊢
  split at h
  · rename_i hc
    rw [if_pos hc]
    simp only [Bool.and_eq_true] at hc
    exact ⟨hc.1, fun x hx h0 => (slow_go xs (0, -1)).2 x hx (by omega)⟩
  · cases h
theorem waitN_bnd (xs : List Ord) : waitN xs xs.length ≤ xs.length := waitN_le xs _

end Go.Proofs.YtlhlbgnhnkfmgaaDoor

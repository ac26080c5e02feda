/- What a gift taken, thanked for and joined does. -/
import Derived.Test.YtohnoccmaeegdaaGreatDoorRows
import Derived.Test.YtohnoccmaeegdaaGreatDoorGifts10
import Derived.Test.YtohnoccmaeegdaaGreatDoorGifts5
import Derived.Test.YtohnoccmaeegdaaGreatDoorGifts6
import Derived.Test.YtohnoccmaeegdaaGreatDoorGifts4
import Derived.Test.YtohnoccmaeegdaaGreatDoorGifts2
namespace Go.Proofs.YtohnoccmaeegdaaGreatDoor
open Go Go.X Go.Proofs Go.ChangeShapes Go.WideShapes Go.ChangeAt Go.RowKit
open Go.ChangeMaps (open_string shut_string)
set_option maxHeartbeats 1000000
set_option maxRecDepth 20000
set_option linter.unusedVariables false
set_option linter.unusedSimpArgs false
theorem sumG_bnd (g : ByteArray) : ∀ {xs : List Gft}, (∀ x ∈ xs, okG x = true) → 0 ≤ sumG g xs ∧ sumG g xs ≤ 99 * xs.length
  | [], _ => by simp [sumG]
  | x :: t, h => by
    have ih := sumG_bnd g (xs := t) (fun y hy => h y (by simp [hy]))
    have hx := (okG_spec (h x (by simp))).2.2.1
    simp only [sumG, List.length_cons]
    split <;> omega
theorem sheets_bnd (xs : List Gft) (g : ByteArray) : 0 ≤ (sheetsP xs g).1 ∧ (sheetsP xs g).1 ≤ 1188 := by
  unfold sheetsP
  split
  · rename_i h
    rw [Bool.and_eq_true] at h
    have h1 := sumG_bnd g (areG_ok h.1)
    have h2 := areG_len h.1
    simp only
    omega
  · simp
theorem sheets_good {xs : List Gft} {g : ByteArray} (h1 : areG xs = true) (h2 : okW g = true) : sheetsP xs g = (sumG g xs, true) := by
  unfold sheetsP
  rw [if_pos (by rw [h1, h2]; rfl)]
theorem unth_good {xs : List Gft} {d : Int} (h1 : areG xs = true) (h2 : 0 ≤ d ∧ d ≤ 4000) : unthP xs d 0 = (unthOf d 0 xs, true) := by
  unfold unthP unthOk
  rw [if_pos (by simp only [h1, Bool.true_and, Bool.and_eq_true]; exact ⟨by unfold inB; simp; omega, by decide⟩)]
theorem unthOf_mem {xs : List Gft} {d : Int} {x : Gft} (hx : x ∈ xs) (h : unthB d 0 x = true) : x.fId ∈ unthOf d 0 xs := by
  unfold unthOf
  exact List.mem_map.2 ⟨x, List.mem_filter.2 ⟨hx, h⟩, rfl⟩
theorem take_law {xs : List Gft} {r : ByteArray} {p d : Int} (h : (takeP xs r p d).2.2 = true) :
    (sheetsP xs r).2 = true ∧ (sheetsP (takeP xs r p d).1 r).2 = true ∧ (unthP (takeP xs r p d).1 d 0).2 = true ∧ (sheetsP (takeP xs r p d).1 r).1 - (sheetsP xs r).1 = p ∧
    decide ((takeP xs r p d).2.1 ∈ (unthP (takeP xs r p d).1 d 0).1) = true := by
  unfold takeP at h ⊢
  split at h
  · rename_i hc
    rw [if_pos hc]
    rw [Bool.and_eq_true] at hc
    simp only
    have hn := okG_spec (areG_ok hc.2 (newO xs r p d) (by simp))
    simp only [newO] at hn
    obtain ⟨-, hw, -, hd, -⟩ := hn
    have ih : (newO xs r p d).fId ∈ unthOf d 0 (xs ++ [newO xs r p d]) := unthOf_mem (by simp) (by simp [unthB, thB, waitG, newO])
    rw [sheets_good hc.1 hw, sheets_good hc.2 hw, unth_good hc.2 hd]
    refine ⟨rfl, rfl, rfl, ?_, ?_⟩
    · simp only [sumG_append, sumG, newO, if_true]; omega
    · rw [decide_eq_true_eq]; exact ih
  · cases h
theorem thank_law {xs : List Gft} {id d : Int} (h : (thankP xs id d).2 = true) :
    (unthP (thankP xs id d).1 d 0).2 = true ∧ decide (id ∈ (unthP (thankP xs id d).1 d 0).1) = false := by
  by_cases h1 : areG xs = true
  · by_cases h2 : xs.any (tkB id) = true
    · by_cases h3 : inB d 0 4000 = true
      · rw [thankP_good h1 h2 h3] at h ⊢
        split at h
        · rename_i h4
          rw [if_pos h4]
          simp only
          rw [unth_good h4 (inB_iff.1 h3)]
          refine ⟨rfl, ?_⟩
          rw [decide_eq_false_iff_not]
          intro hm
          simp only [unthOf] at hm
          obtain ⟨y, hy, hyi⟩ := List.mem_map.1 hm
          obtain ⟨hy1, hy2⟩ := List.mem_filter.1 hy
          obtain ⟨x, hx, rfl⟩ := List.mem_map.1 hy1
          obtain ⟨z, hz, hzb⟩ := List.any_eq_true.1 h2
          have hxid : x.fId = id := by
            rw [← hyi]; unfold tkF setT; split <;> rfl
          simp only [tkB, Bool.and_eq_true, decide_eq_true_eq] at hzb
          obtain ⟨i, hi⟩ := List.getElem?_of_mem hx
          obtain ⟨j, hj⟩ := List.getElem?_of_mem hz
          have := areG_uniq h1 hi hj (by rw [hxid, hzb.1])
          subst this
          rw [hi] at hj
          cases hj
          have hb : tkB id x = true := by simp [tkB, hzb]
          have h0 := (inB_iff.1 h3).1
          rw [tkF, if_pos hb] at hy2
          have h5 : ¬ d = -1 := by omega
          have h6 : thB d (setT x d) = true := by simp [thB, setT, h5]
          simp [unthB, h6] at hy2
        · cases h
      · rw [thankP_bad (.inr (.inr (by simpa using h3)))] at h; cases h
    · rw [thankP_bad (.inr (.inl (by simpa using h2)))] at h; cases h
  · rw [thankP_bad (.inl (by simpa using h1))] at h; cases h
theorem joinF_ok {fr to : ByteArray} (ht : okW to = true) {x : Gft} (h : okG x = true) : okG (joinF fr to x) = true := by
  unfold joinF
  split
  · unfold okG at h ⊢
    simp only [Bool.and_eq_true] at h ⊢
    exact ⟨⟨⟨⟨h.1.1.1.1, ht⟩, h.1.1.2⟩, h.1.2⟩, h.2⟩
  · exact h
theorem joinF_id (fr to : ByteArray) (x : Gft) : (joinF fr to x).fId = x.fId ∧ (joinF fr to x).fDay = x.fDay ∧ (joinF fr to x).fSheets = x.fSheets := by
  unfold joinF
  split <;> exact ⟨rfl, rfl, rfl⟩
theorem gAt_ok {xs : List Gft} {k : Nat} {x : Gft} (hx : xs[k]? = some x) (h : gAt xs k = true) : okG x = true := by
  unfold gAt at h
  rw [hx] at h
  exact (Bool.and_eq_true_iff.1 h).1
theorem joinF_are {xs : List Gft} {fr to : ByteArray} (h : areG xs = true) (ht : okW to = true) : areG (xs.map (joinF fr to)) = true := by
  unfold areG at h ⊢
  rw [Bool.and_eq_true] at h ⊢
  refine ⟨?_, by simpa using h.2⟩
  have h1 := h.1
  unfold gUpto at h1 ⊢
  rw [List.all_eq_true] at h1 ⊢
  intro k hk
  rw [List.length_map] at hk
  have hk2 := h1 k hk
  unfold gAt at hk2 ⊢
  rw [List.getElem?_map, List.getElem?_map]
  cases hx : xs[k]? with
  | none => rfl
  | some x =>
    rw [hx] at hk2
    simp only [Option.map_some, Bool.and_eq_true, Bool.or_eq_true] at hk2 ⊢
    refine ⟨joinF_ok ht hk2.1, ?_⟩
    rcases hk2.2 with h | h
    · exact .inl h
    · right
      cases hy : xs[k - 1]? with
      | none => rfl
      | some y =>
        rw [hy] at h
        simp only [Option.map_some] at h ⊢
        rw [(joinF_id fr to y).1, (joinF_id fr to x).1, (joinF_id fr to y).2.1, (joinF_id fr to x).2.1]
        exact h
theorem joinF_sumTo {fr to : ByteArray} (hne : ¬ fr = to) : ∀ xs : List Gft, sumG to (xs.map (joinF fr to)) = sumG fr xs + sumG to xs ∧ sumG fr (xs.map (joinF fr to)) = 0
  | [] => by simp [sumG]
  | x :: t => by
    obtain ⟨i1, i2⟩ := joinF_sumTo hne t
    simp only [List.map_cons, sumG, i1, i2]
    by_cases h : x.fGiver = fr
    · have e : joinF fr to x = ⟨x.fId, to, x.fSheets, x.fDay, x.fThanks⟩ := by unfold joinF; rw [if_pos h]
      rw [e]
      simp only [h, if_true, if_neg hne, if_neg (fun e : to = fr => hne e.symm)]
      omega
    · have e : joinF fr to x = x := by unfold joinF; rw [if_neg h]
      rw [e]
      simp only [if_neg h]
      omega
theorem join_law {xs : List Gft} {fr to : ByteArray} (h : (joinP xs fr to).2 = true) (hne : ¬ fr = to) :
    (sheetsP xs fr).2 = true ∧ (sheetsP xs to).2 = true ∧ (sheetsP (joinP xs fr to).1 to).2 = true ∧ (sheetsP (joinP xs fr to).1 fr).2 = true ∧
    (sheetsP (joinP xs fr to).1 to).1 = (sheetsP xs fr).1 + (sheetsP xs to).1 ∧ (sheetsP (joinP xs fr to).1 fr).1 = 0 := by
  unfold joinP at h ⊢
  split at h
  · rename_i hc
    rw [if_pos hc]
    simp only [joinOk, Bool.and_eq_true] at hc
    obtain ⟨⟨⟨c1, c2⟩, c3⟩, -⟩ := hc
    have c4 := joinF_are (fr := fr) c1 c3
    obtain ⟨e1, e2⟩ := joinF_sumTo hne xs
    simp only
    rw [sheets_good c1 c2, sheets_good c1 c3, sheets_good c4 c3, sheets_good c4 c2]
    exact ⟨rfl, rfl, rfl, rfl, e1, e2⟩
  · cases h

end Go.Proofs.YtohnoccmaeegdaaGreatDoor

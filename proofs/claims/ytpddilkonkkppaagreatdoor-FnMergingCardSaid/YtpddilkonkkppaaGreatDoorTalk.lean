/- What the law holds of lists of entries. -/
import Derived.Test.YtpddilkonkkppaaGreatDoorRows
import Derived.Test.YtpddilkonkkppaaGreatDoorAll
namespace Go.Proofs.YtpddilkonkkppaaGreatDoor
open Go Go.X Go.Proofs Go.ChangeShapes Go.WideShapes Go.ChangeAt Go.RowKit
open Go.ChangeMaps (open_string shut_string)
set_option maxHeartbeats 1000000
set_option maxRecDepth 20000
set_option linter.unusedVariables false
set_option linter.unusedSimpArgs false
theorem lenT_eq {N : Nat} {ts us : List Tri} (hz : ∀ t ∈ ts, t.1.fSeen.length ≤ N) (h : us.map (·.1) = ts.map (·.1)) : ∀ t ∈ us, t.1.fSeen.length ≤ N := fun t ht => by
  have : t.1 ∈ ts.map (·.1) := by rw [← h]; exact List.mem_map_of_mem ht
  obtain ⟨t', h1, h2⟩ := List.mem_map.1 this
  rw [← h2]
  exact hz t' h1
theorem lens_eq {ts us : List Tri} (h : us.map (·.1) = ts.map (·.1)) : lens us = lens ts := by
  have e : ∀ xs : List Tri, lens xs = ((xs.map (·.1)).map (·.fSeen.length)).sum := fun xs => by unfold lens; rw [List.map_map]; rfl
  rw [e, e, h]
theorem mkEs_sum : ∀ (k : Int) (xs : List Ent), ((mkEs k xs).map (·.fSeen.length)).sum = (xs.map (·.fSeen.length)).sum
  | k, [] => rfl
  | k, x :: t => by simp only [mkEs, List.map_cons, List.sum_cons, mkE_len, mkEs_sum (nxE k x) t]
theorem lens_mk {ts us : List Tri} {k : Int} (h : us.map (·.1) = mkEs k (ts.map (·.1))) : lens us = lens ts := by
  have e : ∀ xs : List Tri, lens xs = ((xs.map (·.1)).map (·.fSeen.length)).sum := fun xs => by unfold lens; rw [List.map_map]; rfl
  rw [e, e, h, mkEs_sum]
theorem lens_le {N : Nat} : ∀ {ts : List Tri}, (∀ t ∈ ts, t.1.fSeen.length ≤ N) → lens ts ≤ N * ts.length
  | [], _ => by simp [lens]
  | t :: ts, h => by
    have h1 := h t (by simp)
    have h2 := lens_le (fun u hu => h u (by simp [hu]) : ∀ u ∈ ts, _)
    unfold lens at *
    rw [List.map_cons, List.sum_cons, List.length_cons, Nat.mul_add]; omega
theorem areE_lens {ts : List Tri} (hA : areE (ts.map (·.1)) = true) : lens ts ≤ 96 ∧ (∀ t ∈ ts, t.1.fSeen.length ≤ 8) ∧ ts.length ≤ 12 := by
  have h12 := (areE_bnd hA).1
  have h8 : ∀ t ∈ ts, t.1.fSeen.length ≤ 8 := fun t ht => by
    obtain ⟨k, hk⟩ := List.getElem?_of_mem ht
    exact (okE_facts (areE_at hA (fst_at hk)).1).1
  have := lens_le h8
  exact ⟨by omega, h8, h12⟩
theorem sl_block {t u : Tri} (h : t.2 = u.2) : t.sl.ownBlock = u.sl.ownBlock := by
  obtain ⟨x, a, c⟩ := t
  obtain ⟨y, b, d⟩ := u
  cases h
  cases a <;> rfl
theorem blksT_eq {v : Value} {ts us : List Tri} (h : us.map (·.2) = ts.map (·.2)) {b : Nat} (hb : blksT v us b) : blksT v ts b := by
  rcases hb with hb | ⟨u, hu, hb⟩
  · exact .inl hb
  · have : u.2 ∈ ts.map (·.2) := by rw [← h]; exact List.mem_map_of_mem hu
    obtain ⟨t, h1, h2⟩ := List.mem_map.1 this
    exact .inr ⟨t, h1, by rw [sl_block h2]; exact hb⟩

theorem allP_good {es : List Ent} (h : areE es = true) : ∀ f, areE (allP f es).1 = true := by
  intro f
  induction f generalizing es with
  | zero => exact h
  | succ f ih =>
    cases ho : onceP es with
    | none => rw [allP_none ho]; exact h
    | some fs =>
      rw [allP_some ho]
      exact ih (once_next ho).1
theorem bndMergeAlike {us ts : List Tri} (h : us.map (·.1) = (mergeAllP (ts.map (·.1))).1) : lens us ≤ 96 ∧ (∀ t ∈ us, t.1.fSeen.length ≤ 8) ∧ us.length ≤ 12 := by
  refine areE_lens ?_
  rw [h]
  unfold mergeAllP
  split
  · rename_i hA
    exact allP_good hA 12
  · rfl

end Go.Proofs.YtpddilkonkkppaaGreatDoor

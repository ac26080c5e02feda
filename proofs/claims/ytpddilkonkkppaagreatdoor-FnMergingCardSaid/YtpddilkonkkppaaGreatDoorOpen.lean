/- Part 9: arguments opened to rows. -/
import Derived.Test.YtpddilkonkkppaaGreatDoorLib6
import Derived.ProofKit
import Derived.Deep.Slices
import Derived.Deep.Fields
import Derived.OpenShut
import Derived.ShutString
import Derived.ChangeOld
import Derived.Below
namespace Go.X
open Go Go.RowKit Go.ChangeShapes Go.WideShapes Go.Deep
section
variable {H : Type} {enc : TypeId × Value → H} {P : Program} {w : World} {base : Nat} {spare : Nat → Bool} {held : Bool}
theorem wf64 {n : Int} (h : (Lit.int .i64 n).wf = true) : -9223372036854775808 ≤ n ∧ n ≤ 9223372036854775807 := by
  simp only [Lit.wf, Bool.and_eq_true, decide_eq_true_eq] at h
  exact ⟨h.1, h.2⟩
/-- the cells of a struct of one-cell fields. -/
theorem open_cells {e : TypeId} {fs : Array Field} {fuel : Nat} {cs : List Value} {x : DataW H × List MemPlace} (he : P.underlying e = some (.struct fs)) (hone : oneCellFields P fs = true) (hC : P.cellsOf e = fs.size)
    (h : DataW.trod enc P w base spare held fuel e cs = some x) : cs.length = fs.size ∧ ∀ (j : Nat) (f : Field), fs[j]? = some f → ∃ v y n, cs[j]? = some v ∧ DataW.trod enc P w base spare held n f.type [v] = some y := by
  obtain ⟨ys, n', hn', hy, hlen, hyl, hf⟩ := DataW.trod_struct he h
  refine ⟨by rw [hlen, hC], fun j f hj => ?_⟩
  obtain ⟨ho, hk⟩ := hone_of hone j f hj
  have hjl : j < fs.size := (Array.getElem?_eq_some_iff.1 hj).1
  have hjc : j < cs.length := by rw [hlen, hC]; exact hjl
  have h1 := hf j f hj
  rw [ho, hk] at h1
  have hone' : (cs.drop j).take 1 = [cs[j]] := by
    rw [List.drop_eq_getElem_cons hjc]
    rfl
  rw [hone'] at h1
  exact ⟨_, ys[j]'(by omega), n', List.getElem?_eq_getElem hjc, h1.trans (List.getElem?_eq_getElem (by omega))⟩
/-- an argument that is a slice, opened to a row. -/
theorem open_rows {α : Type} {en : α → List Value} {good : α → Prop} {t e : TypeId} {sz : Nat} {a : Option Addr} {n c : Nat} {d : DataW H} {p : List MemPlace} (ht : P.underlying t = some (.slice e)) (hC : P.cellsOf e = sz)
    (hx : ∀ (n : Nat) (cs : List Value) (x : DataW H × List MemPlace), cs.length = sz → DataW.trod enc P w base spare held n e cs = some x → ∃ y, cs = en y ∧ good y) (h : DataW.Trod enc P w base spare held t (.slice a n c) d p) :
    ∃ xs : List α, Row w a sz (xs.map en) ∧ xs.length = n ∧ n ≤ 9223372036854775807 ∧ ∀ x ∈ xs, good x := by
  obtain ⟨fuel, hf⟩ := h
  rcases open_slice ht hf with ⟨h0, _⟩ | ⟨ad, len, cap, m, n', D, Pl, hcs, hb, hl, hm, hmm, _, hi⟩
  · simp [Value.cells] at h0
    obtain ⟨rfl, rfl, rfl⟩ := h0
    exact ⟨[], Row.nil _ _ _, rfl, by omega, by simp⟩
  · simp [Value.cells] at hcs
    obtain ⟨rfl, rfl, rfl⟩ := hcs
    have hnm : n ≤ m := by rw [hmm]; split <;> omega
    have hh : ∀ i, i < n → ∃ y, (∀ j v, (en y)[j]? = some v → w.cell? ((ad.add (i * sz)).add j) = some v) ∧ (en y).length = sz ∧ good y := by
      intro i hin
      obtain ⟨cs', h1, h2⟩ := hi i (by omega)
      rw [hC] at h1
      obtain ⟨_, hcl, hat⟩ := World.cells?_some h1
      obtain ⟨y, rfl, hg⟩ := hx _ _ _ hcl h2
      refine ⟨y, fun j v hv => ?_, hcl, hg⟩
      have hj : j < (en y).length := by
        rcases Nat.lt_or_ge j (en y).length with h | h
        · exact h
        · rw [List.getElem?_eq_none h] at hv; cases hv
      rw [hat j (by omega)]; exact hv
    have key : ∀ k, k ≤ n → ∃ xs : List α, Row w (some ad) sz (xs.map en) ∧ xs.length = k ∧ ∀ x ∈ xs, good x := by
      intro k
      induction k with
      | zero => intro _; exact ⟨[], Row.nil _ _ _, rfl, by simp⟩
      | succ k ih =>
        intro hk
        obtain ⟨xs, h1, h2, h3⟩ := ih (by omega)
        obtain ⟨y, h4, h5, h6⟩ := hh k (by omega)
        refine ⟨xs ++ [y], fun i cl hc => ?_, by simp [h2], fun x hx => ?_⟩
        · rw [List.map_append, List.getElem?_append] at hc
          split at hc
          · exact h1 i cl hc
          · rename_i hge
            simp only [List.length_map] at hge hc
            have : i = k := by
              rcases Nat.eq_or_lt_of_le (Nat.le_of_not_lt hge) with h | h
              · omega
              · rw [List.getElem?_eq_none (by simp; omega)] at hc; cases hc
            subst this
            rw [h2, Nat.sub_self] at hc
            simp only [List.map_cons, List.map_nil, List.getElem?_cons_zero, Option.some.injEq] at hc
            subst hc
            exact ⟨h5, ad, rfl, h4⟩
        · rcases List.mem_append.1 hx with h | h
          · exact h3 x h
          · rw [List.mem_singleton.1 h]; exact h6
    obtain ⟨xs, h1, h2, h3⟩ := key n (Nat.le_refl _)
    exact ⟨xs, h1, h2, by simp only [maxLen] at hm; omega, h3⟩
end
end Go.X

/- What merging keeps. -/
import Derived.Test.YtpddilkonkkppaaGreatDoorRows
import Derived.Test.YtpddilkonkkppaaGreatDoorMfun
import Derived.Test.YtpddilkonkkppaaGreatDoorTalk
namespace Go.Proofs.YtpddilkonkkppaaGreatDoor
open Go Go.X Go.Proofs Go.ChangeShapes Go.WideShapes Go.ChangeAt Go.RowKit
open Go.ChangeMaps (open_string shut_string)
set_option maxHeartbeats 1000000
set_option maxRecDepth 20000
set_option linter.unusedVariables false
set_option linter.unusedSimpArgs false
theorem sum_set : ∀ {l : List Int} {i : Nat} {u v : Int}, l[i]? = some u → (l.set i v).sum = l.sum - u + v
  | x :: l, 0, u, v, h => by simp at h; subst h; simp only [List.set_cons_zero, List.sum_cons]; omega
  | x :: l, i + 1, u, v, h => by
    have := sum_set (l := l) (i := i) (v := v) (by simpa using h)
    simp only [List.set_cons_succ, List.sum_cons, this]; omega
theorem sum_erase : ∀ {l : List Int} {k : Nat} {u : Int}, l[k]? = some u → (l.eraseIdx k).sum = l.sum - u
  | x :: l, 0, u, h => by simp at h; subst h; simp only [List.eraseIdx_cons_zero, List.sum_cons]; omega
  | x :: l, k + 1, u, h => by
    have := sum_erase (l := l) (k := k) (by simpa using h)
    simp only [List.eraseIdx_cons_succ, List.sum_cons, this]; omega
theorem sumE_eq (es : List Ent) : sumE es = (es.map (·.fCount)).sum := by
  have : ∀ (l : List Ent) (s : Int), l.foldl (fun s x => s + x.fCount) s = s + (l.map (·.fCount)).sum := by
    intro l
    induction l with
    | nil => intro s; simp
    | cons x t ih => intro s; rw [List.foldl_cons, ih, List.map_cons, List.sum_cons]; omega
  unfold sumE
  rw [this]; omega
theorem map_es {es : List Ent} {i k : Nat} {m : Ent} : ((es.set i m).eraseIdx k).map (·.fCount) = ((es.map (·.fCount)).set i m.fCount).eraseIdx k := by
  rw [List.eraseIdx_eq_take_drop_succ, List.eraseIdx_eq_take_drop_succ, List.map_append, List.map_take, List.map_drop, List.map_set]
theorem mergeP_sum {es : List Ent} {i k : Nat} {x y : Ent} (hx : es[i]? = some x) (hy : es[k]? = some y) (hik : i < k) : sumE (mergeP es i k) = sumE es := by
  rw [mergeP_at hx hy, sumE_eq, sumE_eq, map_es]
  have h1 : (es.map (·.fCount))[i]? = some x.fCount := by rw [List.getElem?_map, hx]; rfl
  have h2 : (es.map (·.fCount))[k]? = some y.fCount := by rw [List.getElem?_map, hy]; rfl
  have h3 : ((es.map (·.fCount)).set i (mergedE x y).fCount)[k]? = some y.fCount := by rw [List.getElem?_set_ne (by omega)]; exact h2
  rw [sum_erase h3, sum_set h1]
  simp only [mergedE]
  omega
theorem mergeP_knows {es : List Ent} {i k j : Nat} {x y z : Ent} (hx : es[i]? = some x) (hy : es[k]? = some y) (hik : i < k) (hz : es[j]? = some z) : ∃ u ∈ mergeP es i k, knowsB z.fId u = true := by
  rw [mergeP_at hx hy]
  have hil := (List.getElem?_eq_some_iff.1 hx).1
  have hm : mergedE x y ∈ (es.set i (mergedE x y)).eraseIdx k := List.mem_eraseIdx_iff_getElem?.2 ⟨i, by omega, by rw [List.getElem?_set]; simp [hil]⟩
  by_cases hji : j = i
  · subst hji
    rw [hx] at hz; cases hz
    exact ⟨_, hm, by unfold knowsB mergedE; simp⟩
  · by_cases hjk : j = k
    · subst hjk
      rw [hy] at hz; cases hz
      refine ⟨_, hm, ?_⟩
      unfold knowsB
      rw [Bool.or_eq_true]
      right
      refine decide_eq_true ?_
      simp only [mergedE]
      rw [sortI_mem]
      simp
    · refine ⟨z, List.mem_eraseIdx_iff_getElem?.2 ⟨j, hjk, by rw [List.getElem?_set_ne (by omega)]; exact hz⟩, ?_⟩
      unfold knowsB
      simp
theorem pairOk_comm (es : List Ent) (p q : Int) : pairOk es q p = pairOk es p q := by
  rw [← pairOk_mm es q p, ← pairOk_mm es p q, show min q p = min p q by omega, show max q p = max p q by omega]
theorem lo_comm (es : List Ent) (p q : Int) : loI es q p = loI es p q := by unfold loI; rw [show min q p = min p q by omega]
theorem hi_comm (es : List Ent) (p q : Int) : hiI es q p = hiI es p q := by unfold hiI; rw [show max q p = max p q by omega]
theorem merge_law {es : List Ent} {p q : Int} (h : (mergeTwoP es p q).2.2 = true) : pairOk es q p = true ∧ clashesP es q p = (mergeTwoP es p q).2.1 ∧ areE es = true ∧ areE (mergeTwoP es p q).1 = true ∧ sumE es = sumE (mergeTwoP es p q).1 ∧ (mergeTwoP es p q).1.length + 1 = es.length ∧
    ∀ (j : Nat) (z : Ent), es[j]? = some z → findB (mergeTwoP es p q).1 z.fId = true := by
  have hok : pairOk es p q = true := by
    cases ho : pairOk es p q with
    | true => rfl
    | false => rw [mergeTwo_no ho] at h; cases h
  obtain ⟨i, k, x, y, h1, h2, hik, hkl, hx, hy, hA, -, -, -, -⟩ := pair_at hok
  have hgo : areE (mergeP es i k) = true := by
    cases hg : areE (mergeP es i k) with
    | true => rfl
    | false => rw [mergeTwo_bad h1 h2 hg] at h; cases h
  rw [mergeTwo_ok hok h1 h2 hgo hx hy]
  refine ⟨by rw [pairOk_comm]; exact hok, ?_, hA, hgo, (mergeP_sum hx hy hik).symm, mergeP_len (by omega) hkl, fun j z hz => ?_⟩
  · unfold clashesP
    rw [pairOk_comm, hok]
    exact pairC_ok (by rw [lo_comm]; exact h1) (by rw [hi_comm]; exact h2) hx hy
  · obtain ⟨u, hu, hku⟩ := mergeP_knows hx hy hik hz
    have hid := (okE_facts (areE_at hA hz).1).2.2.2.2.2.1
    unfold findB
    rw [hgo, inB_iff.2 hid, idxP_any, Bool.true_and, Bool.true_and]
    exact List.any_eq_true.2 ⟨u, hu, hku⟩
theorem once_sum {es fs : List Ent} (h : onceP es = some fs) : sumE fs = sumE es := by
  obtain ⟨i, k, hik, hk, -, rfl⟩ := onceP_some h
  exact mergeP_sum (List.getElem?_eq_getElem (by omega)) (List.getElem?_eq_getElem hk) hik
theorem once_nil : onceP [] = none := rfl
theorem allP_facts {es : List Ent} : ∀ f, es.length ≤ f → sumE (allP f es).1 = sumE es ∧ (allP f es).1.length + (allP f es).2 = es.length ∧ onceP (allP f es).1 = none := by
  intro f
  induction f generalizing es with
  | zero =>
    intro hl
    have : es = [] := List.eq_nil_of_length_eq_zero (by omega)
    subst this
    exact ⟨rfl, rfl, once_nil⟩
  | succ f ih =>
    intro hl
    cases ho : onceP es with
    | none => rw [allP_none ho]; exact ⟨rfl, rfl, ho⟩
    | some fs =>
      have hn := (once_next ho).2
      obtain ⟨h1, h2, h3⟩ := ih (es := fs) (by omega)
      rw [allP_some ho]
      exact ⟨by rw [h1, once_sum ho], by dsimp only; omega, h3⟩
theorem all_law {es : List Ent} (h : (mergeAllP es).2.2 = true) : areE es = true ∧ areE (mergeAllP es).1 = true ∧ sumE es = sumE (mergeAllP es).1 ∧ (mergeAllP es).1.length + (mergeAllP es).2.1 = es.length ∧ mergeAllP (mergeAllP es).1 = ((mergeAllP es).1, 0, true) := by
  have hA : areE es = true := by
    cases ha : areE es with
    | true => rfl
    | false => unfold mergeAllP at h; rw [ha] at h; cases h
  have he : mergeAllP es = ((allP 12 es).1, (allP 12 es).2, true) := by unfold mergeAllP; rw [hA]; rfl
  obtain ⟨h1, h2, h3⟩ := allP_facts 12 (areE_len hA)
  have hg := allP_good hA 12
  rw [he]
  refine ⟨hA, hg, h1.symm, h2, ?_⟩
  unfold mergeAllP
  rw [hg, allP_none h3]; rfl
theorem alike_law {es : List Ent} {p q : Int} (h : pairOk es p q = true) : pairA es p q = decide ((clashesP es p q).length = 0) := by
  obtain ⟨i, k, x, y, h1, h2, hik, hkl, hx, hy, hA, -, -, -, -⟩ := pair_at h
  rw [pairA_ok h h1 h2 hx hy]
  unfold clashesP
  rw [h]
  simp only [if_true]
  rw [pairC_ok h1 h2 hx hy, Bool.eq_iff_iff, ← clashP_alike x y]
  simp

end Go.Proofs.YtpddilkonkkppaaGreatDoor

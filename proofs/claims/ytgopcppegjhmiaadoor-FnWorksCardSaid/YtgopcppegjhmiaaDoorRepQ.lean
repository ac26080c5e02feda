/- What counts, grades and untouched sheets tell. -/
import Derived.Test.YtgopcppegjhmiaaDoorRows
import Derived.Test.YtgopcppegjhmiaaDoorRepA
import Derived.Test.YtgopcppegjhmiaaDoorRepB
import Derived.Test.YtgopcppegjhmiaaDoorRep8
import Derived.Test.YtgopcppegjhmiaaDoorRlib
namespace Go.Proofs.YtgopcppegjhmiaaDoor
open Go Go.X Go.Proofs Go.ChangeShapes Go.WideShapes Go.ChangeAt Go.RowKit
open Go.ChangeMaps (open_string shut_string)
set_option maxHeartbeats 1000000
set_option maxRecDepth 20000
set_option linter.unusedVariables false
set_option linter.unusedSimpArgs false
theorem addP_len (xs : List Dmg) (ys : List Rep) (r : Rep) : (addP xs ys r).1.length ≤ ys.length + 1 := by
  unfold addP
  split <;> simp
theorem areD_rise {xs : List Dmg} (h : areD xs = true) : ∀ (k j : Nat) x y, j < k → xs[j]? = some x → xs[k]? = some y → x.fSheet < y.fSheet := by
  have step : ∀ (k : Nat) x y, xs[k]? = some x → xs[k + 1]? = some y → x.fSheet < y.fSheet := by
    intro k x y hx hy
    simp only [areD, okDUp, Bool.and_eq_true, List.all_eq_true, List.mem_range] at h
    have hk := (List.getElem?_eq_some_iff.1 hy).1
    have := h.1 (k + 1) hk
    unfold okDAt at this
    rw [hy] at this
    simp only [Nat.add_sub_cancel, hx] at this
    simpa using (Bool.and_eq_true_iff.1 this).2
  intro k
  induction k with
  | zero => intro j x y hj; omega
  | succ k ih =>
    intro j x y hj hx hy
    have hk := (List.getElem?_eq_some_iff.1 hy).1
    obtain ⟨z, hz⟩ : ∃ z, xs[k]? = some z := ⟨xs[k]'(by omega), by simp⟩
    have h1 := step k z y hz hy
    rcases Nat.lt_or_ge j k with hjk | hjk
    · have := ih j x z hjk hx hz; omega
    · obtain rfl : j = k := by omega
      rw [hx] at hz; cases hz; exact h1
theorem dAt_of {xs : List Dmg} (h : areD xs = true) {k : Nat} {x : Dmg} (hx : xs[k]? = some x) : dAt xs x.fSheet = k := by
  unfold dAt
  refine idxP_hit hx (by simp) (fun j y hj hy => ?_)
  have := areD_rise h k j y x hj hy hx
  simp; omega
def gAt (xs : List Dmg) (ys : List Rep) (i : Nat) : Int := gradeD ((worstL xs ys).getD i default)
def gLast (xs : List Dmg) (ys : List Rep) (i : Nat) : Int := if i = 0 then 1000 else gAt xs ys (i - 1)
theorem worst_law {xs : List Dmg} {ys : List Rep} {n : Int} (i : Nat) (s : Int) (hs : (worstP xs ys n).1[i]? = some s) :
    (dmgOnP xs ys s 4000).2 = true ∧ okD (dmgOnP xs ys s 4000).1 = true ∧ gradeD (dmgOnP xs ys s 4000).1 = gAt xs ys i ∧ gAt xs ys i ≤ gLast xs ys i := by
  by_cases hg : areR xs ys = true ∧ inB n 0 10 = true
  · obtain ⟨g1, g2⟩ := hg
    rw [worstP_good g1 g2] at hs
    simp only at hs
    rw [List.getElem?_map, List.getElem?_take] at hs
    split at hs
    · rename_i hin
      cases hd : (worstL xs ys)[i]? with
      | none => rw [hd] at hs; cases hs
      | some d =>
        rw [hd] at hs
        simp only [Option.map_some, Option.some.injEq] at hs
        subst hs
        have hmem : d ∈ doneL xs ys := isort_mem (List.mem_of_getElem? hd)
        unfold doneL at hmem
        obtain ⟨x, hx, rfl⟩ := List.mem_map.1 hmem
        obtain ⟨k, hk⟩ := List.getElem?_of_mem hx
        have hda := (areR_spec g1).1
        have hdk := dAt_of hda hk
        rw [doneD_sheet, dmgOnP_good g1 hdk hk (by decide)]
        have hxo := areD_at hda hk
        have hgi : gAt xs ys i = gradeD (doneD x ys 4000) := by
          unfold gAt
          simp [List.getD, hd]
        refine ⟨rfl, doneD_ok hxo _ _, hgi.symm, ?_⟩
        rw [hgi]
        have hdo := okD_spec (doneD_ok hxo ys 4000)
        unfold gLast
        split
        · unfold gradeD; omega
        · rename_i hi0
          have hlen : i < (worstL xs ys).length := (List.getElem?_eq_some_iff.1 hd).1
          obtain ⟨e, he⟩ : ∃ e, (worstL xs ys)[i - 1]? = some e := ⟨(worstL xs ys)[i - 1]'(by omega), by simp⟩
          have hge : gAt xs ys (i - 1) = gradeD e := by
            unfold gAt
            simp [List.getD, he]
          rw [hge]
          have hmem2 : e ∈ doneL xs ys := isort_mem (List.mem_of_getElem? he)
          have hall := doneL_ok (xs := xs) ys (areD_all hda)
          have heo := hall e hmem2
          obtain ⟨hsrt, -, -⟩ := isort_all gk (doneL xs ys) (doneL xs ys).length (Nat.le_refl _)
          rw [List.take_length] at hsrt
          have hp := List.pairwise_iff_getElem.1 hsrt (i - 1) i (by show i - 1 < (worstL xs ys).length; omega) hlen (by omega)
          have e1 : (isort gk (doneL xs ys))[i - 1]'(by show i - 1 < (worstL xs ys).length; omega) = e := (List.getElem?_eq_some_iff.1 he).2
          have e2 : (isort gk (doneL xs ys))[i]'hlen = doneD x ys 4000 := (List.getElem?_eq_some_iff.1 hd).2
          rw [e1, e2] at hp
          unfold gk at hp
          rw [gradeW_ok heo, gradeW_ok (doneD_ok hxo ys 4000)] at hp
          omega
    · cases hs
  · rw [worstP_bad hg] at hs; cases hs
theorem unt_law {xs : List Dmg} {ys : List Rep} {r : Rep} (hr : r ∈ ys) : decide (r.fSheet ∈ (untP xs ys).1) = false := by
  rw [decide_eq_false_iff_not]
  unfold untP
  split
  · intro h
    unfold untL at h
    obtain ⟨x, hx, hxs⟩ := List.mem_map.1 h
    have h2 := (List.mem_filter.1 hx).2
    unfold untK touchB at h2
    simp only [Bool.and_eq_true, Bool.not_eq_true', List.any_eq_false, decide_eq_true_eq] at h2
    exact h2.2 r hr hxs.symm
  · simp
theorem cnts_sum : ∀ {ys : List Rep}, (∀ r ∈ ys, 1 ≤ r.fWork ∧ r.fWork ≤ 4) → cntK ys 1 + cntK ys 2 + cntK ys 3 + cntK ys 4 = ys.length
  | [], _ => rfl
  | r :: t, h => by
    have ih := cnts_sum (ys := t) (fun q hq => h q (by simp [hq]))
    have hr := h r (by simp)
    unfold cntK at ih ⊢
    simp only [List.countP_cons, List.length_cons]
    have : r.fWork = 1 ∨ r.fWork = 2 ∨ r.fWork = 3 ∨ r.fWork = 4 := by omega
    rcases this with e | e | e | e <;> simp [e] <;> omega
theorem add_law {xs : List Dmg} {ys : List Rep} {r : Rep} (h : (addP xs ys r).2 = true) :
    areR xs ys = true ∧ (addP xs ys r).1 = ys ++ [r] ∧ countP' xs ys = (cntsL ys, true) ∧ countP' xs (addP xs ys r).1 = (cntsL (ys ++ [r]), true) ∧ (1 ≤ r.fWork ∧ r.fWork ≤ 4) ∧ ys.length ≤ 11 ∧
    (cntK (ys ++ [r]) r.fWork = cntK ys r.fWork + 1) ∧ sumI (cntsL (ys ++ [r])) = (ys ++ [r]).length := by
  unfold addP at h ⊢
  split at h
  · rename_i hc
    simp only [Bool.and_eq_true] at hc
    rw [if_pos (by simp [hc])]
    simp only
    have hl := (areR_spec hc.2).2.1
    rw [List.length_append, List.length_singleton] at hl
    have hw := areR_works hc.2
    refine ⟨hc.1, trivial, by simp [countP', hc.1], by simp [countP', hc.2], hw r (by simp), by omega, ?_, ?_⟩
    · unfold cntK
      rw [List.countP_append]
      simp
    · have := cnts_sum hw
      show 0 + cntK (ys ++ [r]) 1 + cntK (ys ++ [r]) 2 + cntK (ys ++ [r]) 3 + cntK (ys ++ [r]) 4 = _
      omega
  · cases h
theorem cnts_at {ys : List Rep} {i : Int} (h : 1 ≤ i ∧ i ≤ 4) : (cntsL ys)[(i - 1).toNat]? = some (cntK ys i) := by
  have : i = 1 ∨ i = 2 ∨ i = 3 ∨ i = 4 := by omega
  rcases this with rfl | rfl | rfl | rfl <;> rfl
theorem add_facts {xs : List Dmg} {ys : List Rep} {r : Rep} (h : (addP xs ys r).2 = true) :
    (countP' xs ys).2 = true ∧ (countP' xs ys).1.length = 4 ∧ (countP' xs (addP xs ys r).1).1.length = 4 ∧ (countP' xs (addP xs ys r).1).2 = true ∧ (1 ≤ r.fWork ∧ r.fWork ≤ 4) ∧ (addP xs ys r).1.length ≤ 12 ∧
    (∀ u v, (countP' xs ys).1[(r.fWork - 1).toNat]? = some u → (countP' xs (addP xs ys r).1).1[(r.fWork - 1).toNat]? = some v → v = u + 1 ∧ 0 ≤ u ∧ u ≤ 12) ∧
    (∀ x ∈ (countP' xs (addP xs ys r).1).1, 0 ≤ x ∧ x ≤ 1000000) ∧ sumI (countP' xs (addP xs ys r).1).1 = (addP xs ys r).1.length := by
  obtain ⟨g1, g2, g3, g4, g5, g6, g7, g8⟩ := add_law h
  rw [g3, g4, g2]
  refine ⟨rfl, rfl, rfl, rfl, g5, by simp; omega, fun u v hu hv => ?_, fun x hx => ?_, g8⟩
  · simp only at hu hv
    rw [cnts_at g5] at hu hv
    cases hu; cases hv
    have := cntK_bnd ys r.fWork
    omega
  · have hb : ∀ v, 0 ≤ cntK (ys ++ [r]) v ∧ cntK (ys ++ [r]) v ≤ 1000000 := fun v => by
      have := cntK_bnd (ys ++ [r]) v
      rw [List.length_append, List.length_singleton] at this
      omega
    simp only [cntsL, List.mem_cons, List.not_mem_nil, or_false] at hx
    rcases hx with rfl | rfl | rfl | rfl <;> exact hb _

end Go.Proofs.YtgopcppegjhmiaaDoor

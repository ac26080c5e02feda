/- What the best work and a plan do. -/
import Derived.Test.YtgopcppegjhmiaaRows
import Derived.Test.YtgopcppegjhmiaaRep6
import Derived.Test.YtgopcppegjhmiaaRep9
namespace Go.Proofs.Ytgopcppegjhmiaa
open Go Go.X Go.Proofs Go.ChangeShapes Go.WideShapes Go.ChangeAt Go.RowKit
open Go.ChangeMaps (open_string shut_string)
set_option maxHeartbeats 1000000
set_option maxRecDepth 20000
set_option linter.unusedVariables false
set_option linter.unusedSimpArgs false
theorem doneD_snoc (x : Dmg) (ys : List Rep) (r : Rep) (day : Int) : doneD x (ys ++ [r]) day = stepD day (doneD x ys day) r := by simp [doneD]
theorem okRAt_pre {xs : List Dmg} {ys : List Rep} (r : Rep) {k : Nat} (h : k < ys.length) : okRAt xs (ys ++ [r]) k = okRAt xs ys k := by
  unfold okRAt
  rw [List.getElem?_append_left h, List.getElem?_append_left (by omega : k - 1 < ys.length), List.take_append_of_le_length (by omega)]
theorem okRUp_pre {xs : List Dmg} {ys : List Rep} (r : Rep) : ∀ {k : Nat}, k ≤ ys.length → okRUp xs (ys ++ [r]) k = okRUp xs ys k
  | 0, _ => rfl
  | k + 1, h => by rw [okRUp_succ, okRUp_succ, okRUp_pre r (by omega), okRAt_pre r (by omega)]
theorem areR_snoc {xs : List Dmg} {ys : List Rep} (r : Rep) (h : areR xs ys = true) : areR xs (ys ++ [r]) = (decide (ys.length < 12) && okRAt xs (ys ++ [r]) ys.length) := by
  unfold areR at h ⊢
  simp only [Bool.and_eq_true, decide_eq_true_eq] at h
  rw [List.length_append, List.length_singleton, okRUp_succ, okRUp_pre r (Nat.le_refl _), h.1.1, h.2]
  simp [Nat.succ_le_iff]
theorem bw_law (x : Dmg) (l : Bool) : ∀ k : Nat, bwAt x l (k + 1) = bwAt x l (k + 1) ∧ 1 ≤ (bwAt x l (k + 1)).1 ∧ (bwAt x l (k + 1)).1 ≤ k + 1 ∧ (bwAt x l (k + 1)).2 = gradeD (after x (bwAt x l (k + 1)).1) ∧ (l = true → (bwAt x l (k + 1)).1 ≤ 2)
  | 0 => by
    refine ⟨rfl, ?_⟩
    simp [bwAt, bwStep]
  | k + 1 => by
    obtain ⟨-, h1, h2, h3, h4⟩ := bw_law x l k
    refine ⟨rfl, ?_⟩
    rw [bwAt]
    generalize bwAt x l (k + 1) = g at *
    unfold bwStep
    split
    · exact ⟨h1, by omega, h3, h4⟩
    · rename_i hn
      split
      · refine ⟨by simp only; omega, by simp only; omega, rfl, fun hl => ?_⟩
        simp only [hl, and_true] at hn
        simp only; omega
      · exact ⟨h1, by omega, h3, h4⟩
theorem best_law {xs : List Dmg} {ys : List Rep} {s : Int} (h : (bestP xs ys s).2 = true) :
    areR xs ys = true ∧ (1 ≤ (bestP xs ys s).1.1 ∧ (bestP xs ys s).1.1 ≤ 4) ∧ (addP xs ys ⟨s, (bestP xs ys s).1.1, 4000⟩).2 = decide ((ys.length : Int) < 12) ∧
    ((addP xs ys ⟨s, (bestP xs ys s).1.1, 4000⟩).2 = true → (dmgOnP xs (addP xs ys ⟨s, (bestP xs ys s).1.1, 4000⟩).1 s 4000).2 = true ∧ okD (dmgOnP xs (addP xs ys ⟨s, (bestP xs ys s).1.1, 4000⟩).1 s 4000).1 = true ∧
      gradeD (dmgOnP xs (addP xs ys ⟨s, (bestP xs ys s).1.1, 4000⟩).1 s 4000).1 = (bestP xs ys s).1.2) := by
  by_cases hg : areR xs ys = true ∧ 0 ≤ dAt xs s
  · obtain ⟨hr, hd⟩ := hg
    rcases dAt_spec xs s with hk | ⟨k, x, hk, hkl, hx, hxs⟩
    · omega
    have hb := bestP_good hr hk hx
    obtain ⟨-, h1, h2, h3, h4⟩ := bw_law (doneD x ys 4000) (linedP ys s) 3
    rw [hb]
    simp only at h1 h2 h3 h4 ⊢
    generalize hbw : bwAt (doneD x ys 4000) (linedP ys s) (3 + 1) = g at *
    refine ⟨hr, ⟨h1, by omega⟩, ?_⟩
    have hs := areR_snoc ⟨s, g.1, 4000⟩ hr
    have hat : okRAt xs (ys ++ [⟨s, g.1, 4000⟩]) ys.length = true := by
      unfold okRAt
      rw [List.getElem?_append_right (Nat.le_refl _), Nat.sub_self]
      simp only [List.getElem?_cons_zero]
      rw [List.take_append_of_le_length (Nat.le_refl _), List.take_length]
      have c4 : (!(decide (3 ≤ g.1) && linedP ys s)) = true := by
        cases hl : linedP ys s with
        | false => simp
        | true => have := h4 hl; simp; omega
      simp only [Bool.and_eq_true]
      refine ⟨⟨⟨⟨by simpa using hd, by simp [inB]; omega⟩, by decide⟩, ?_⟩, c4⟩
      rcases Nat.eq_zero_or_pos ys.length with h0 | h0
      · simp [h0]
      · rw [List.getElem?_append_left (by omega)]
        have hq : ys[ys.length - 1]? = some ys[ys.length - 1] := by simp
        rw [hq]
        have := (areR_at hr hq).2.2.2
        simp [this]
    rw [hat, Bool.and_true] at hs
    have ha : (addP xs ys ⟨s, g.1, 4000⟩).2 = decide (ys.length < 12) := by
      unfold addP
      rw [hr, hs]
      simp only [Bool.true_and]
      split <;> simp_all
    refine ⟨by rw [ha, decide_eq_decide]; omega, fun hat2 => ?_⟩
    rw [ha, decide_eq_true_eq] at hat2
    rw [decide_eq_true hat2] at hs
    have ha1 : (addP xs ys ⟨s, g.1, 4000⟩).1 = ys ++ [⟨s, g.1, 4000⟩] := by
      unfold addP
      rw [hr, hs]
      simp
    rw [ha1, dmgOnP_good hs hk hx (by decide)]
    have hxo : okD x = true := areD_at (areR_spec hr).1 hx
    refine ⟨rfl, doneD_ok hxo _ _, ?_⟩
    simp only
    rw [doneD_snoc, h3]
    unfold stepD
    rw [if_pos ⟨by rw [doneD_sheet]; exact hxs.symm, by simp⟩]
  · rw [bestP_bad hg] at h; cases h
def okPlan : Bool → List Int → Prop
  | _, [] => True
  | l, k :: r => (1 ≤ k ∧ k ≤ 4) ∧ (l = true → k ≤ 2) ∧ okPlan (l || (k == 4)) r
theorem planAt_law {f : Dmg → Bool → List Int × Int} {n : Nat} (hf : ∀ x l, okPlan l (f x l).1 ∧ gradeD ((f x l).1.foldl after x) = (f x l).2 ∧ (f x l).1.length = n) (x : Dmg) (l : Bool) :
    ∀ k : Nat, k ≤ 3 → okPlan l (planAt f x l (k + 1)).1 ∧ gradeD ((planAt f x l (k + 1)).1.foldl after x) = (planAt f x l (k + 1)).2 ∧ (planAt f x l (k + 1)).1.length = n + 1
  | 0, _ => by
    have h := hf (after x 1) l
    have e1 : ((0 : Nat) : Int) + 1 = 1 := rfl
    simp only [planAt, planStep]
    rw [if_neg (by simp), if_pos (.inl trivial)]
    refine ⟨⟨by omega, fun _ => by omega, ?_⟩, ?_, ?_⟩
    · have := hf (after x (((0 : Nat) : Int) + 1)) (l || (((0 : Nat) : Int) + 1 == 4))
      exact this.1
    · have := hf (after x (((0 : Nat) : Int) + 1)) (l || (((0 : Nat) : Int) + 1 == 4))
      exact this.2.1
    · have := hf (after x (((0 : Nat) : Int) + 1)) (l || (((0 : Nat) : Int) + 1 == 4))
      exact congrArg Nat.succ this.2.2
  | k + 1, hk => by
    obtain ⟨h1, h2, h3⟩ := planAt_law hf x l k (by omega)
    rw [planAt]
    generalize planAt f x l (k + 1) = g at *
    unfold planStep
    split
    · exact ⟨h1, h2, h3⟩
    · rename_i hn
      have hh := hf (after x (((k + 1 : Nat) : Int) + 1)) (l || (((k + 1 : Nat) : Int) + 1 == 4))
      split
      · refine ⟨⟨by omega, fun hl => ?_, hh.1⟩, hh.2.1, congrArg Nat.succ hh.2.2⟩
        simp only [hl, and_true] at hn
        omega
      · exact ⟨h1, h2, h3⟩
theorem planP_law : ∀ (n : Nat) (x : Dmg) (l : Bool), okPlan l (planP n x l).1 ∧ gradeD ((planP n x l).1.foldl after x) = (planP n x l).2 ∧ (planP n x l).1.length = n
  | 0, x, l => ⟨trivial, rfl, rfl⟩
  | n + 1, x, l => planAt_law (fun x l => planP_law n x l) x l 3 (by omega)
theorem okPlan_at : ∀ {p : List Int} {l : Bool}, okPlan l p → ∀ (k : Nat) (w : Int), p[k]? = some w → (1 ≤ w ∧ w ≤ 4) ∧ (3 ≤ w → l = false ∧ ∀ v ∈ p.take k, v ≠ 4)
  | [], _, _, k, w, hw => by simp at hw
  | v :: r, l, h, 0, w, hw => by
    simp only [List.getElem?_cons_zero, Option.some.injEq] at hw
    subst hw
    refine ⟨h.1, fun h3 => ⟨?_, by simp⟩⟩
    cases hl : l with
    | false => rfl
    | true => have := h.2.1 hl; omega
  | v :: r, l, h, k + 1, w, hw => by
    have hh := okPlan_at h.2.2 k w (by simpa using hw)
    refine ⟨hh.1, fun h3 => ?_⟩
    obtain ⟨g1, g2⟩ := hh.2 h3
    simp only [Bool.or_eq_false_iff, beq_eq_false_iff_ne] at g1
    refine ⟨g1.1, fun u hu => ?_⟩
    simp only [List.take_succ_cons, List.mem_cons] at hu
    rcases hu with rfl | hu
    · exact g1.2
    · exact g2 u hu
def worksP (s : Int) (p : List Int) : List Rep := p.map fun k => ⟨s, k, 0⟩
theorem works_at {s : Int} {p : List Int} {k : Nat} {v : Int} (h : p[k]? = some v) : worksP s (p.take (k + 1)) = worksP s (p.take k) ++ [⟨s, v, 0⟩] := by
  unfold worksP
  rw [List.take_add_one, h]; simp
theorem works_done (x : Dmg) (day : Int) (hd : 0 ≤ day) : ∀ (p : List Int), doneD x (worksP x.fSheet p) day = p.foldl after x
  | [] => rfl
  | k :: r => by
    have ih := works_done (after x k) day hd r
    rw [after_sheet] at ih
    unfold worksP doneD at ih ⊢
    simp only [List.map_cons, List.foldl_cons]
    rw [← ih]
    unfold stepD
    simp only
    rw [if_pos ⟨trivial, hd⟩]
theorem works_areR {xs : List Dmg} {s : Int} {p : List Int} (h : areD xs = true) (hd : 0 ≤ dAt xs s) (hl : p.length ≤ 12) (hp : okPlan false p) : areR xs (worksP s p) = true := by
  have len : (worksP s p).length = p.length := by simp [worksP]
  unfold areR okRUp
  rw [h, decide_eq_true (by omega : (worksP s p).length ≤ 12)]
  simp only [Bool.true_and, Bool.and_true, List.all_eq_true, List.mem_range]
  intro k hk
  rw [len] at hk
  have hpk : p[k]? = some p[k] := by simp
  obtain ⟨h1, h2⟩ := okPlan_at hp k _ hpk
  generalize p[k] = v at *
  have hwk : (worksP s p)[k]? = some ⟨s, v, 0⟩ := by simp [worksP, hpk]
  have hwq : (worksP s p)[k - 1]? = some ⟨s, p[k - 1]'(by omega), 0⟩ := by
    have : p[k - 1]? = some (p[k - 1]'(by omega)) := by simp
    simp [worksP, this]
  unfold okRAt
  rw [hwk, hwq]
  have hln : (decide (3 ≤ v) && linedP ((worksP s p).take k) s) = false := by
    by_cases h3 : 3 ≤ v
    · have := (h2 h3).2
      rw [Bool.and_eq_false_iff]
      right
      unfold linedP worksP
      rw [List.any_eq_false]
      intro r hr
      rw [← List.map_take, List.mem_map] at hr
      obtain ⟨u, hu, rfl⟩ := hr
      have := this u hu
      simp [this]
    · simp [h3]
  simp only [hln]
  simp [inB, hd]
  omega
theorem plan_law {xs : List Dmg} {s n : Int} (h : (workP xs s n).2.2 = true) :
    areR xs (worksP s (workP xs s n).1) = true ∧ (dmgOnP xs (worksP s (workP xs s n).1) s 0).2 = true ∧ okD (dmgOnP xs (worksP s (workP xs s n).1) s 0).1 = true ∧ gradeD (dmgOnP xs (worksP s (workP xs s n).1) s 0).1 = (workP xs s n).2.1 := by
  by_cases hg : areD xs = true ∧ 0 ≤ dAt xs s ∧ inB n 0 4 = true
  · obtain ⟨hr, hd, hn⟩ := hg
    rcases dAt_spec xs s with hk | ⟨k, x, hk, hkl, hx, hxs⟩
    · omega
    rw [workP_good hr hk hx hn]
    obtain ⟨h1, h2, h3⟩ := planP_law n.toNat x false
    have hn2 := inB_iff.1 hn
    simp only
    have ha := works_areR (s := s) hr hd (by omega) h1
    refine ⟨ha, ?_⟩
    rw [dmgOnP_good ha hk hx (by decide)]
    refine ⟨rfl, doneD_ok (areD_at hr hx) _ _, ?_⟩
    simp only
    rw [← h2]
    subst hxs
    rw [works_done _ _ (by omega)]
  · rw [workP_bad hg] at h; cases h
theorem AreDamagesS_c (a : Option Addr) (n c : Nat) (xs : List Dmg) (w : World) (hr : Row w a 4 (xs.map encDmg)) (hn : xs.length = n) (hm : n ≤ 4611686018427387904) :
    Calls Try.prog 36 #[.slice a n c] w fun e w' => e = .returned (.bool (areD xs)) ∧ E0 w w' := by
  refine enterK Non 5 Try.func36 rfl rfl rfl fun K hK => ?_
  repeat (any_goals (
    conv => whnf
    first
    | ((with_reducible refine callF (g := 40) ?_ ?_); kernel_rfl; refine ⟨_, l22Damages_c _ _ _ xs _ (by repeat (first | assumption | refine Row.e0 ?_ (by assumption))) hn hm, ?_⟩; intro w4 e4; have z4 := cutLe e4)
    | ((with_reducible refine BIF.dec ?_ ?_) <;> intro _)
    | ((with_reducible refine BIF.s ?_ ?_) <;> intro _)
    | (with_reducible refine NEXTK.normal ?_)
    | (with_reducible refine NEXTK.ret ?_)
    | (with_reducible refine NEXTK.exit ?_)
    | (with_reducible refine SEQ.plain ?_)
    | (with_reducible refine hK _ _ ?_)
    | ((with_reducible refine RUNL.agg (fun _ => ?_) ?_); (focus kernel_rfl))
    | (with_reducible refine RUNL.run ?_)
    | ((with_reducible refine AR.ok ?_ ?_); exact ⟨by first | omega | (dsimp only; omega), by first | omega | (dsimp only; omega)⟩)
    | (with_reducible refine AR.wr ?_)
    | ((with_reducible intro w3 e3); try have z3 := cutLe e3)
    | ((with_reducible intro h3); have h4 := Nat.le_of_lt h3; clear h4)))
  intro hx
  exact ⟨rfl, hx⟩
theorem AreRepairsS_c (a b : Option Addr) (n c m d : Nat) (xs : List Dmg) (ys : List Rep) (w : World) (hr : Row w a 4 (xs.map encDmg)) (hs : Row w b 3 (ys.map encRep)) (hn : xs.length = n) (hm : ys.length = m) (hn1 : n ≤ 4611686018427387904) (hm1 : m ≤ 4611686018427387904) (hc : m ≤ d ∧ d < 9223372036854775808) :
    Calls Try.prog 38 #[.slice a n c, .slice b m d] w fun e w' => e = .returned (.bool (areR xs ys)) ∧ E0 w w' := by
  refine enterK Non 8 Try.func38 rfl rfl rfl fun K hK => ?_
  repeat (any_goals (
    conv => whnf
    first
    | ((with_reducible refine callF (g := 47) ?_ ?_); kernel_rfl; refine ⟨_, l22Good_c _ _ _ _ _ _ xs ys _ (by repeat (first | assumption | refine Row.e0 ?_ (by assumption))) (by repeat (first | assumption | refine Row.e0 ?_ (by assumption))) hn hm hn1 hm1 hc, ?_⟩; intro w4 e4; have z4 := cutLe e4)
    | ((with_reducible refine BIF.dec ?_ ?_) <;> intro _)
    | ((with_reducible refine BIF.s ?_ ?_) <;> intro _)
    | (with_reducible refine NEXTK.normal ?_)
    | (with_reducible refine NEXTK.ret ?_)
    | (with_reducible refine NEXTK.exit ?_)
    | (with_reducible refine SEQ.plain ?_)
    | (with_reducible refine hK _ _ ?_)
    | ((with_reducible refine RUNL.agg (fun _ => ?_) ?_); (focus kernel_rfl))
    | (with_reducible refine RUNL.run ?_)
    | ((with_reducible refine AR.ok ?_ ?_); exact ⟨by first | omega | (dsimp only; omega), by first | omega | (dsimp only; omega)⟩)
    | (with_reducible refine AR.wr ?_)
    | ((with_reducible intro w3 e3); try have z3 := cutLe e3)
    | ((with_reducible intro h3); have h4 := Nat.le_of_lt h3; clear h4)))
  intro hx
  exact ⟨rfl, hx⟩

end Go.Proofs.Ytgopcppegjhmiaa

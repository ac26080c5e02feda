/- The busiest day. -/
import Derived.Test.YthgeeocmhdpgiaaDoorRows
import Derived.Test.YthgeeocmhdpgiaaDoorFrames3
namespace Go.Proofs.YthgeeocmhdpgiaaDoor
open Go Go.X Go.Proofs Go.ChangeShapes Go.WideShapes Go.ChangeAt Go.RowKit
open Go.ChangeMaps (open_string shut_string)
set_option maxHeartbeats 1000000
set_option maxRecDepth 20000
set_option linter.unusedVariables false
set_option linter.unusedSimpArgs false
def onDay (d : Int) (x : Frm) : Bool := inB d x.fFrom x.fUntil
def cntD (xs : List Frm) (d : Int) : Nat := xs.countP (onDay d)
theorem cntD_take {xs : List Frm} {k : Nat} {x : Frm} (d : Int) (h : xs[k]? = some x) : cntD (xs.take (k + 1)) d = cntD (xs.take k) d + (if onDay d x then 1 else 0) := by
  unfold cntD
  rw [List.take_add_one, h, List.countP_append]
  simp [List.countP_cons]
theorem cntD_le (xs : List Frm) (d : Int) : cntD xs d ≤ xs.length := List.countP_le_length
def bStep (xs : List Frm) (s : Int × Int) (d : Int) : Int × Int := if s.2 < (cntD xs d : Int) then (d, (cntD xs d : Int)) else s
def bUp (xs : List Frm) : Nat → Int × Int
  | 0 => (0, 0)
  | k + 1 => bStep xs (bUp xs k) k
def sStep (xs : List Frm) (s : Int × Int) (x : Frm) : Int × Int :=
  if s.2 < (cntD xs x.fFrom : Int) ∨ ((cntD xs x.fFrom : Int) = s.2 ∧ x.fFrom < s.1) then (x.fFrom, (cntD xs x.fFrom : Int)) else s
def sUp (xs : List Frm) (k : Nat) : Int × Int := (xs.take k).foldl (sStep xs) (0, 0)
theorem sUp_at {xs : List Frm} {k : Nat} {x : Frm} (h : xs[k]? = some x) : sUp xs (k + 1) = sStep xs (sUp xs k) x := by
  unfold sUp
  rw [List.take_add_one, h]; simp
theorem bUp_inv (xs : List Frm) : ∀ D, (∀ d : Nat, d < D → (cntD xs d : Int) ≤ (bUp xs D).2) ∧ (∀ d : Nat, (d : Int) < (bUp xs D).1 → (cntD xs d : Int) < (bUp xs D).2) ∧ ((bUp xs D).2 = 0 ∧ (bUp xs D).1 = 0 ∨ (0 ≤ (bUp xs D).1 ∧ (bUp xs D).1 < D ∧ (bUp xs D).2 = cntD xs (bUp xs D).1 ∧ 0 < (bUp xs D).2))
  | 0 => by
    refine ⟨fun d h => by omega, fun d h => ?_, .inl ⟨rfl, rfl⟩⟩
    simp only [bUp] at h; omega
  | D + 1 => by
    obtain ⟨h1, h2, h3⟩ := bUp_inv xs D
    simp only [bUp, bStep]
    by_cases hc : (bUp xs D).2 < (cntD xs (D : Int) : Int)
    · rw [if_pos hc]
      refine ⟨fun d hd => ?_, fun d hd => ?_, .inr ⟨by simp only; omega, by simp only; omega, rfl, ?_⟩⟩
      · rcases Nat.lt_or_ge d D with h | h
        · have := h1 d h; simp only; omega
        · obtain rfl : d = D := by omega
          exact Int.le_refl _
      · have : d < D := by simp only at hd; omega
        have := h1 d this
        simp only; omega
      · simp only
        rcases h3 with ⟨h, -⟩ | ⟨-, -, -, h⟩ <;> omega
    · rw [if_neg hc]
      refine ⟨fun d hd => ?_, h2, ?_⟩
      · rcases Nat.lt_or_ge d D with h | h
        · exact h1 d h
        · obtain rfl : d = D := by omega
          omega
      · rcases h3 with h | ⟨a, b, c, e⟩
        · exact .inl h
        · exact .inr ⟨a, by omega, c, e⟩
theorem sUp_inv (xs : List Frm) : ∀ k, k ≤ xs.length → (∀ (i : Nat) x, i < k → xs[i]? = some x → (cntD xs x.fFrom : Int) ≤ (sUp xs k).2) ∧ (∀ (i : Nat) x, i < k → xs[i]? = some x → (cntD xs x.fFrom : Int) = (sUp xs k).2 → (sUp xs k).1 ≤ x.fFrom) ∧ (k = 0 ∧ (sUp xs k).2 = 0 ∧ (sUp xs k).1 = 0 ∨ (∃ x ∈ xs, (sUp xs k).1 = x.fFrom ∧ (sUp xs k).2 = cntD xs x.fFrom) ∨ (sUp xs k).2 = 0)
  | 0, _ => ⟨fun i x h => by omega, fun i x h => by omega, .inl ⟨rfl, rfl, rfl⟩⟩
  | k + 1, hk => by
    obtain ⟨x, hx⟩ : ∃ x, xs[k]? = some x := ⟨xs[k]'(by omega), by simp⟩
    obtain ⟨h1, h2, h3⟩ := sUp_inv xs k (by omega)
    rw [sUp_at hx]
    unfold sStep
    by_cases hc : (sUp xs k).2 < (cntD xs x.fFrom : Int) ∨ ((cntD xs x.fFrom : Int) = (sUp xs k).2 ∧ x.fFrom < (sUp xs k).1)
    · rw [if_pos hc]
      refine ⟨fun i y hi hy => ?_, fun i y hi hy he => ?_, .inr (.inl ⟨x, List.mem_of_getElem? hx, rfl, rfl⟩)⟩
      · rcases Nat.lt_or_ge i k with h | h
        · have := h1 i y h hy; simp only; omega
        · obtain rfl : i = k := by omega
          rw [hx] at hy; cases hy; exact Int.le_refl _
      · rcases Nat.lt_or_ge i k with h | h
        · have a := h1 i y h hy
          simp only at he ⊢
          rcases hc with hc | ⟨hc, hlt⟩
          · omega
          · have := h2 i y h hy (by omega); omega
        · obtain rfl : i = k := by omega
          rw [hx] at hy; cases hy; exact Int.le_refl _
    · rw [if_neg hc]
      refine ⟨fun i y hi hy => ?_, fun i y hi hy he => ?_, ?_⟩
      · rcases Nat.lt_or_ge i k with h | h
        · exact h1 i y h hy
        · obtain rfl : i = k := by omega
          rw [hx] at hy; cases hy; omega
      · rcases Nat.lt_or_ge i k with h | h
        · exact h2 i y h hy he
        · obtain rfl : i = k := by omega
          rw [hx] at hy; cases hy
          have : ¬ x.fFrom < (sUp xs i).1 := fun h => hc (.inr ⟨he, h⟩)
          omega
      · rcases h3 with ⟨-, h, -⟩ | h | h
        · exact .inr (.inr h)
        · exact .inr (.inl h)
        · exact .inr (.inr h)
theorem maxFrom : ∀ {ys : List Frm}, ys ≠ [] → ∃ x ∈ ys, ∀ y ∈ ys, y.fFrom ≤ x.fFrom
  | [], h => absurd rfl h
  | [x], _ => ⟨x, by simp, by simp⟩
  | x :: y :: r, _ => by
    obtain ⟨z, hz, hm⟩ := maxFrom (ys := y :: r) (by simp)
    by_cases h : z.fFrom ≤ x.fFrom
    · refine ⟨x, by simp, fun u hu => ?_⟩
      rcases List.mem_cons.1 hu with rfl | hu
      · exact Int.le_refl _
      · have := hm u hu; omega
    · refine ⟨z, List.mem_cons_of_mem _ hz, fun u hu => ?_⟩
      rcases List.mem_cons.1 hu with rfl | hu
      · omega
      · exact hm u hu
theorem countP_mono' {p q : Frm → Bool} : ∀ {xs : List Frm}, (∀ x ∈ xs, p x = true → q x = true) → xs.countP p ≤ xs.countP q
  | [], _ => Nat.le_refl _
  | x :: r, h => by
    have ih := countP_mono' (p := p) (q := q) (xs := r) (fun y hy => h y (by simp [hy]))
    have hx := h x (by simp)
    simp only [List.countP_cons]
    by_cases hp : p x = true
    · simp [hp, hx hp]; omega
    · by_cases hq : q x = true <;> simp [hp, hq] <;> omega
theorem cnt_from {xs : List Frm} {d : Int} (h : 0 < cntD xs d) : ∃ x ∈ xs, x.fFrom ≤ d ∧ cntD xs d ≤ cntD xs x.fFrom := by
  have hne : xs.filter (onDay d) ≠ [] := by
    intro e
    unfold cntD at h
    rw [List.countP_eq_length_filter, e] at h
    simp at h
  obtain ⟨x, hx, hm⟩ := maxFrom hne
  obtain ⟨hx1, hx2⟩ := List.mem_filter.1 hx
  have hxd := inB_iff.1 hx2
  refine ⟨x, hx1, hxd.1, countP_mono' fun y hy hp => ?_⟩
  have hyd := inB_iff.1 hp
  have := hm y (List.mem_filter.2 ⟨hy, hp⟩)
  exact inB_iff.2 ⟨this, by omega⟩
theorem busy_eq {xs : List Frm} (ho : areF xs = true) (hne : 0 < xs.length) : bUp xs 4001 = sUp xs xs.length := by
  obtain ⟨b1, b2, b3⟩ := bUp_inv xs 4001
  obtain ⟨s1, s2, s3⟩ := sUp_inv xs xs.length (Nat.le_refl _)
  have fromOk : ∀ x ∈ xs, 0 ≤ x.fFrom ∧ x.fFrom ≤ 4000 ∧ 0 < cntD xs x.fFrom := by
    intro x hx
    have h := okF_spec (areF_ok ho x hx)
    refine ⟨by omega, by omega, ?_⟩
    unfold cntD
    rw [List.countP_pos_iff]
    exact ⟨x, hx, inB_iff.2 ⟨by omega, by omega⟩⟩
  have bAll : ∀ d : Int, 0 ≤ d → d ≤ 4000 → (cntD xs d : Int) ≤ (bUp xs 4001).2 := by
    intro d h0 h1
    have := b1 d.toNat (by omega)
    rwa [show ((d.toNat : Nat) : Int) = d from by omega] at this
  have bFirst : ∀ d : Int, 0 ≤ d → d < (bUp xs 4001).1 → (cntD xs d : Int) < (bUp xs 4001).2 := by
    intro d h0 h1
    have := b2 d.toNat (by omega)
    rwa [show ((d.toNat : Nat) : Int) = d from by omega] at this
  have sAll' : ∀ x ∈ xs, (cntD xs x.fFrom : Int) ≤ (sUp xs xs.length).2 := by
    intro x hx
    obtain ⟨i, hi⟩ := List.getElem?_of_mem hx
    exact s1 i x (List.getElem?_eq_some_iff.1 hi).1 hi
  have sFirst' : ∀ x ∈ xs, (cntD xs x.fFrom : Int) = (sUp xs xs.length).2 → (sUp xs xs.length).1 ≤ x.fFrom := by
    intro x hx
    obtain ⟨i, hi⟩ := List.getElem?_of_mem hx
    exact s2 i x (List.getElem?_eq_some_iff.1 hi).1 hi
  obtain ⟨x0, hx0⟩ : ∃ x, x ∈ xs := ⟨xs[0], List.getElem_mem _⟩
  have hpos := fromOk x0 hx0
  have hb3 : 0 ≤ (bUp xs 4001).1 ∧ (bUp xs 4001).1 < 4001 ∧ (bUp xs 4001).2 = cntD xs (bUp xs 4001).1 ∧ 0 < (bUp xs 4001).2 := by
    rcases b3 with ⟨h, -⟩ | h
    · have := bAll x0.fFrom hpos.1 hpos.2.1; omega
    · exact h
  have hs0 := sAll' x0 hx0
  obtain ⟨y, hy, hy1, hy2⟩ : ∃ x ∈ xs, (sUp xs xs.length).1 = x.fFrom ∧ (sUp xs xs.length).2 = cntD xs x.fFrom := by
    rcases s3 with ⟨h, -⟩ | h | h
    · omega
    · exact h
    · omega
  have hyo := fromOk y hy
  -- the two agree
  obtain ⟨z, hz, hz1, hz2⟩ := cnt_from (xs := xs) (d := (bUp xs 4001).1) (by omega)
  have hzo := fromOk z hz
  have e1 := bAll y.fFrom hyo.1 hyo.2.1
  have e2 := sAll' z hz
  have hm : (bUp xs 4001).2 = (sUp xs xs.length).2 := by omega
  have hz3 : (cntD xs z.fFrom : Int) = (sUp xs xs.length).2 := by omega
  have e3 := sFirst' z hz hz3
  have e4 : ¬ (sUp xs xs.length).1 < (bUp xs 4001).1 := by
    intro h
    have := bFirst _ (by rw [hy1]; exact hyo.1) h
    rw [hy1] at this
    omega
  exact Prod.ext (by omega) hm
def hangW (d wall : Int) (xs : List Frm) : List Int := (xs.filter fun x => decide (x.fWall = wall) && onDay d x).map (·.fId)
theorem hangW_take (d wall : Int) {xs : List Frm} {k : Nat} {x : Frm} (h : xs[k]? = some x) : hangW d wall (xs.take (k + 1)) = hangW d wall (xs.take k) ++ (if x.fWall = wall ∧ onDay d x = true then [x.fId] else []) := by
  rw [List.take_add_one, h]
  simp only [hangW, Option.toList_some, List.filter_append, List.map_append]
  congr 1
  by_cases h1 : x.fWall = wall <;> by_cases h2 : onDay d x = true <;> simp [h1, h2]
theorem hangW_len (d wall : Int) (xs : List Frm) : (hangW d wall xs).length ≤ xs.length := by
  simp [hangW, List.length_filter_le]
def hangUp (xs : List Frm) (d : Int) : Nat → List Int
  | 0 => []
  | t + 1 => hangUp xs d t ++ hangW d ((t : Int) + 1) xs
theorem hangUp_len (xs : List Frm) (d : Int) : ∀ t, (hangUp xs d t).length ≤ t * xs.length
  | 0 => by simp [hangUp]
  | t + 1 => by
    have h1 := hangUp_len xs d t
    have h2 := hangW_len d ((t : Int) + 1) xs
    simp only [hangUp, List.length_append, Nat.add_mul, Nat.one_mul]
    omega
theorem hangUp_cnt {xs : List Frm} (d : Int) (h : ∀ x ∈ xs, 1 ≤ x.fWall ∧ x.fWall ≤ 4) : (hangUp xs d 4).length = cntD xs d := by
  have e : ∀ ys : List Frm, (∀ x ∈ ys, 1 ≤ x.fWall ∧ x.fWall ≤ 4) → (hangW d 1 ys).length + (hangW d 2 ys).length + (hangW d 3 ys).length + (hangW d 4 ys).length = cntD ys d := by
    intro ys hy
    induction ys with
    | nil => rfl
    | cons y r ih =>
      have i := ih (fun z hz => hy z (by simp [hz]))
      have hw := hy y (by simp)
      simp only [hangW, cntD, List.length_map, List.filter_cons, List.countP_cons] at i ⊢
      by_cases hd : onDay d y = true
      · have : y.fWall = 1 ∨ y.fWall = 2 ∨ y.fWall = 3 ∨ y.fWall = 4 := by omega
        rcases this with hq | hq | hq | hq <;> simp [hq, hd] <;> omega
      · simp [hd]; omega
  have := e xs h
  have e4 : hangUp xs d 4 = [] ++ hangW d 1 xs ++ hangW d 2 xs ++ hangW d 3 xs ++ hangW d 4 xs := rfl
  rw [e4]
  simp only [List.length_append, List.length_nil]
  omega
def hangingP (xs : List Frm) (d : Int) : List Int × Bool := if areF xs && inB d 0 4000 then (hangUp xs d 4, true) else ([], false)
theorem hangingP_len (xs : List Frm) (d : Int) : (hangingP xs d).1.length ≤ 4 * xs.length := by
  unfold hangingP
  split
  · exact hangUp_len xs d 4
  · simp
theorem HangingOnS_c (a : Option Addr) (n c : Nat) (xs : List Frm) (d : Int) (w : World) (hr : Row w a 5 (xs.map encFrm)) (hn : xs.length = n) (hm : n ≤ 1048577) :
    Calls Tryd.prog 58 #[.slice a n c, .int .i64 d] w fun e w' => ∃ v, e = .returned v ∧ E0 w w' ∧ ∃ s, v = .tuple #[s, .bool (hangingP xs d).2] ∧ Own w' w.heap.size 3 1 s ((hangingP xs d).1.map encI) := by
  refine enterK Non 59 Tryd.func58 rfl rfl rfl fun K hK => ?_
  conv => whnf
  repeat (first | ((with_reducible refine NEXTK.normal ?_); conv => whnf) | ((with_reducible refine NEXTK.exit ?_); conv => whnf) | ((with_reducible refine NEXTK.ret ?_); conv => whnf) | ((with_reducible refine SEQ.plain ?_); conv => whnf) | ((with_reducible refine AR.ok ?_ ?_); exact ⟨by omega, by omega⟩; conv => whnf))
  refine bsS elemI [] rfl rfl (by simp) (by omega) (fun w1 e1 o1 => ?_)
  have z1 := cutLe e1
  by_cases ho : areF xs = true ∧ inB d 0 4000 = true
  · have hf : hangingP xs d = (hangUp xs d 4, true) := by simp [hangingP, ho]
    have hl := areF_len ho.1
    repeat (any_goals (
      conv => whnf
      first
      | ((with_reducible refine callF (g := 40) ?_ ?_); kernel_rfl; refine ⟨_, l27Good_c _ _ _ xs _ (by repeat (first | assumption | refine Row.e0 ?_ (by assumption))) hn (by omega), ?_⟩; intro w4 e4; have z4 := cutLe e4)
      | ((with_reducible refine callF (g := 63) ?_ ?_); kernel_rfl; refine ⟨_, l2Day_c _ _, ?_⟩; intro w4 e4; have z4 := cutLe e4)
      | ((exfalso; clear hK; simp_all <;> omega))
      | ((with_reducible refine BIF.dec ?_ ?_) <;> intro _)
      | ((with_reducible refine BIF.s ?_ ?_) <;> intro _)
      | (with_reducible refine NEXTK.normal ?_)
      | (with_reducible refine NEXTK.ret ?_)
      | (with_reducible refine NEXTK.exit ?_)
      | (with_reducible refine SEQ.plain ?_)
      | (with_reducible refine hK _ _ ?_)
      | ((with_reducible refine RUNL.agg (fun _ => ?_) ?_); (focus kernel_rfl))
      | (with_reducible refine RUNL.run ?_)
      | ((with_reducible refine AR.ok ?_ ?_); exact ⟨by first | omega | (dsimp only; omega), by first | omega | (dsimp only; omega)⟩)
      | (with_reducible refine AR.wr ?_)
      | ((with_reducible intro w3 e3); try have z3 := cutLe e3)
      | ((with_reducible intro h3); have h4 := Nat.le_of_lt h3; clear h4)))
    conv => whnf
    have o4 : Own w4 w.heap.size 3 1 (.slice (some ⟨w.heap.size, 0, none⟩) 0 0) (([] : List Int).map encI) := by
      repeat (first | exact o1 | refine Own.e0 ?_ (by assumption))
    refine LOOP.mk (Nat × (Option Addr × Nat × Nat)) (fun g => [(7, .v (.int .i64 ((g.1 : Int) + 1))), (6, .v (.slice g.2.1 g.2.2.1 g.2.2.2))])
      (fun g wr => g.1 ≤ 4 ∧ w.heap.size ≤ wr.heap.size ∧ Own wr w.heap.size 3 1 (.slice g.2.1 g.2.2.1 g.2.2.2) ((hangUp xs d g.1).map encI)) (fun g => 4 - g.1) (0, (some ⟨w.heap.size, 0, none⟩, 0, 0)) rfl ⟨rfl, rfl, trivial⟩ ⟨Nat.zero_le _, by show w.heap.size ≤ w4.heap.size; omega, o4⟩ ?_
    rintro ⟨t, ⟨b, m, e⟩⟩ wr - ⟨ht, hz, hown⟩
    simp only at ht hz hown
    have hul := hangUp_len xs d t
    conv => whnf
    repeat (first | ((with_reducible refine NEXTK.normal ?_); conv => whnf) | ((with_reducible refine NEXTK.exit ?_); conv => whnf) | ((with_reducible refine NEXTK.ret ?_); conv => whnf) | ((with_reducible refine SEQ.plain ?_); conv => whnf) | ((with_reducible refine AR.ok ?_ ?_); exact ⟨by omega, by omega⟩; conv => whnf))
    refine BIF.dec (fun hlt => ?_) (fun hlt => ?_)
    · simp only at hlt
      have htl : t * xs.length ≤ 4 * 12 := Nat.mul_le_mul (by omega) hl
      repeat (any_goals (
        conv => whnf
        first
        | ((with_reducible refine BIF.dec ?_ ?_) <;> intro _)
        | ((with_reducible refine BIF.s ?_ ?_) <;> intro _)
        | (with_reducible refine NEXTK.normal ?_)
        | (with_reducible refine NEXTK.ret ?_)
        | (with_reducible refine NEXTK.exit ?_)
        | (with_reducible refine SEQ.plain ?_)
        | (with_reducible refine hK _ _ ?_)
        | ((with_reducible refine RUNL.agg (fun _ => ?_) ?_); (focus kernel_rfl))
        | (with_reducible refine RUNL.run ?_)
        | ((with_reducible refine AR.ok ?_ ?_); exact ⟨by first | omega | (dsimp only; omega), by first | omega | (dsimp only; omega)⟩)
        | (with_reducible refine AR.wr ?_)
        | ((with_reducible intro w3 e3); try have z3 := cutLe e3)
        | ((with_reducible intro h3); have h4 := Nat.le_of_lt h3; clear h4)))
      conv => whnf
      refine LOOP.mk (Nat × (Option Addr × Nat × Nat)) (fun g => [(8, .v (.int .i64 g.1)), (6, .v (.slice g.2.1 g.2.2.1 g.2.2.2))])
        (fun g ws => g.1 ≤ n ∧ w.heap.size ≤ ws.heap.size ∧ Own ws w.heap.size 3 1 (.slice g.2.1 g.2.2.1 g.2.2.2) ((hangUp xs d t ++ hangW d ((t : Int) + 1) (xs.take g.1)).map encI)) (fun g => n - g.1) (0, (b, m, e)) rfl ⟨rfl, rfl, trivial⟩ ⟨Nat.zero_le _, hz, by simpa [hangW] using hown⟩ ?_
      rintro ⟨j, ⟨b1, m1, e1'⟩⟩ ws - ⟨hj, hz1, hown1⟩
      simp only at hj hz1 hown1
      have hml := hown1.row.2
      conv => whnf
      repeat (first | ((with_reducible refine NEXTK.normal ?_); conv => whnf) | ((with_reducible refine NEXTK.exit ?_); conv => whnf) | ((with_reducible refine NEXTK.ret ?_); conv => whnf) | ((with_reducible refine SEQ.plain ?_); conv => whnf) | ((with_reducible refine AR.ok ?_ ?_); exact ⟨by omega, by omega⟩; conv => whnf))
      refine BIF.dec (fun hlt1 => ?_) (fun hlt1 => ?_)
      · have hlt' : j < xs.length := by simp only at hlt1; omega
        have his := hr.isSome (by simp; omega)
        obtain ⟨x, hx⟩ : ∃ x, xs[j]? = some x := ⟨xs[j]'(by omega), by simp⟩
        have hwt := hangW_take d ((t : Int) + 1) hx
        have hwl := hangW_len d ((t : Int) + 1) (xs.take j)
        have hwl2 : (hangW d ((t : Int) + 1) (xs.take j)).length ≤ 12 := by simp at hwl; omega
        by_cases hxr : x.fWall = (t : Int) + 1 ∧ onDay d x = true
        · have hxr2 : inB d x.fFrom x.fUntil = true := hxr.2
          have hxr1 := hxr.1
          repeat (any_goals (
            conv => whnf
            first
            | ((with_reducible refine OBL.mk ?_ (fun _ => ?_)); exact ⟨by first | omega | (dsimp only; omega), by first | omega | (dsimp only; omega), his⟩)
            | ((with_reducible refine ELD.at (j) hr ?_ ?_ ?_ (fun x' hx' => ?_)); exact mAddr_Non _; (first | rfl | omega); exact hlt'; obtain rfl : x = x' := by (rw [hx] at hx'; exact Option.some.inj hx'))
            | ((with_reducible refine DRAW.quiet ?_ ?_ ?_); kernel_rfl; kernel_rfl)
            | ((with_reducible refine callQ (g := 64) ?_ ?_); kernel_rfl; refine ⟨_, fun w' _ => l1In_c _ _ _ _, ?_⟩)
            | ((with_reducible intro w5 e5); have z5 := cutLe e5; (try dsimp only at z5); replace hown1 := hown1.e0 e5)
            | ((with_reducible refine BIF.beq ?_ ?_) <;> intro _)
            | ((exfalso; omega))
            | ((exfalso; clear hK; simp_all <;> omega))
            | ((with_reducible refine bsS elemI [.int .i64 x.fId] ?_ ?_ ?_ ?_ ?_); (focus rfl); (focus rfl); (focus (intro v hv; simp at hv; subst hv; rfl)); (focus omega); intro w9 e9 oB; have z9 := cutLe e9; (try replace oC := oC.e0 e9))
            | ((with_reducible refine BIF.dec ?_ ?_) <;> intro _)
            | ((with_reducible refine BIF.s ?_ ?_) <;> intro _)
            | (with_reducible refine NEXTK.normal ?_)
            | (with_reducible refine NEXTK.ret ?_)
            | (with_reducible refine NEXTK.exit ?_)
            | (with_reducible refine SEQ.plain ?_)
            | (with_reducible refine hK _ _ ?_)
            | ((with_reducible refine RUNL.agg (fun _ => ?_) ?_); (focus kernel_rfl))
            | (with_reducible refine RUNL.run ?_)
            | ((with_reducible refine AR.ok ?_ ?_); exact ⟨by first | omega | (dsimp only; omega), by first | omega | (dsimp only; omega)⟩)
            | (with_reducible refine AR.wr ?_)
            | ((with_reducible intro w3 e3); try have z3 := cutLe e3)
            | ((with_reducible intro h3); have h4 := Nat.le_of_lt h3; clear h4)))
          conv => whnf
          replace hown1 := hown1.e0 e9
          refine apS (ns := [encI x.fId]) elemI hown1 oB.row.1 rfl (by intro l hl; simp at hl; subst hl; rfl) ⟨by simp; omega, by simp; omega⟩ ⟨(by show w.heap.size ≤ _; omega), by omega⟩ trivial (fun v2 w2 x2 o2 => ?_)
          have z2 := cutLe x2
          replace o2 : Own w2 w.heap.size 3 1 v2 ((hangUp xs d t ++ hangW d ((t : Int) + 1) (xs.take (j + 1))).map encI) := by rw [hwt, if_pos hxr]; simpa using o2
          obtain ⟨b2, d2, rfl, q2, p2⟩ := o2.rowx
          repeat (any_goals (
            conv => whnf
            first
            | ((with_reducible refine BIF.dec ?_ ?_) <;> intro _)
            | ((with_reducible refine BIF.s ?_ ?_) <;> intro _)
            | (with_reducible refine NEXTK.normal ?_)
            | (with_reducible refine NEXTK.ret ?_)
            | (with_reducible refine NEXTK.exit ?_)
            | (with_reducible refine SEQ.plain ?_)
            | (with_reducible refine hK _ _ ?_)
            | ((with_reducible refine RUNL.agg (fun _ => ?_) ?_); (focus kernel_rfl))
            | (with_reducible refine RUNL.run ?_)
            | ((with_reducible refine AR.ok ?_ ?_); exact ⟨by first | omega | (dsimp only; omega), by first | omega | (dsimp only; omega)⟩)
            | (with_reducible refine AR.wr ?_)
            | ((with_reducible intro w3 e3); try have z3 := cutLe e3)
            | ((with_reducible intro h3); have h4 := Nat.le_of_lt h3; clear h4)))
          refine ⟨(j + 1, (b2, _, d2)), rfl, ⟨rfl, rfl, trivial⟩, rfl, rfl, ⟨by simp only; omega, ?_, o2⟩, by simp only; omega⟩
          show w.heap.size ≤ w2.heap.size
          omega
        · have hkeep : hangW d ((t : Int) + 1) (xs.take (j + 1)) = hangW d ((t : Int) + 1) (xs.take j) := by rw [hwt, if_neg hxr]; simp
          have hno : x.fWall = (t : Int) + 1 → inB d x.fFrom x.fUntil = false := fun h => by
            cases hb : inB d x.fFrom x.fUntil with
            | false => rfl
            | true => exact absurd ⟨h, hb⟩ hxr
          repeat (any_goals (
            conv => whnf
            first
            | ((with_reducible refine OBL.mk ?_ (fun _ => ?_)); exact ⟨by first | omega | (dsimp only; omega), by first | omega | (dsimp only; omega), his⟩)
            | ((with_reducible refine ELD.at (j) hr ?_ ?_ ?_ (fun x' hx' => ?_)); exact mAddr_Non _; (first | rfl | omega); exact hlt'; obtain rfl : x = x' := by (rw [hx] at hx'; exact Option.some.inj hx'))
            | ((with_reducible refine DRAW.quiet ?_ ?_ ?_); kernel_rfl; kernel_rfl)
            | ((with_reducible refine callQ (g := 64) ?_ ?_); kernel_rfl; refine ⟨_, fun w' _ => l1In_c _ _ _ _, ?_⟩)
            | ((with_reducible intro w5 e5); have z5 := cutLe e5; (try dsimp only at z5); replace hown1 := hown1.e0 e5)
            | ((with_reducible refine BIF.beq ?_ ?_) <;> intro _)
            | ((exfalso; clear hK; simp_all <;> omega))
            | ((with_reducible refine BIF.dec ?_ ?_) <;> intro _)
            | ((with_reducible refine BIF.s ?_ ?_) <;> intro _)
            | (with_reducible refine NEXTK.normal ?_)
            | (with_reducible refine NEXTK.ret ?_)
            | (with_reducible refine NEXTK.exit ?_)
            | (with_reducible refine SEQ.plain ?_)
            | (with_reducible refine hK _ _ ?_)
            | ((with_reducible refine RUNL.agg (fun _ => ?_) ?_); (focus kernel_rfl))
            | (with_reducible refine RUNL.run ?_)
            | ((with_reducible refine AR.ok ?_ ?_); exact ⟨by first | omega | (dsimp only; omega), by first | omega | (dsimp only; omega)⟩)
            | (with_reducible refine AR.wr ?_)
            | ((with_reducible intro w3 e3); try have z3 := cutLe e3)
            | ((with_reducible intro h3); have h4 := Nat.le_of_lt h3; clear h4)))
          all_goals
            refine ⟨(j + 1, (b1, m1, e1')), rfl, ⟨rfl, rfl, trivial⟩, rfl, rfl, ⟨by simp only; omega, ?_, ?_⟩, by simp only; omega⟩
            · first | exact hz1 | (show w.heap.size ≤ w5.heap.size; omega)
            · rw [hkeep]; exact hown1
      · have hkj : j = xs.length := by simp only at hlt1; omega
        rw [hkj, List.take_length] at hown1
        repeat (any_goals (
          conv => whnf
          first
          | ((with_reducible refine BIF.dec ?_ ?_) <;> intro _)
          | ((with_reducible refine BIF.s ?_ ?_) <;> intro _)
          | (with_reducible refine NEXTK.normal ?_)
          | (with_reducible refine NEXTK.ret ?_)
          | (with_reducible refine NEXTK.exit ?_)
          | (with_reducible refine SEQ.plain ?_)
          | (with_reducible refine hK _ _ ?_)
          | ((with_reducible refine RUNL.agg (fun _ => ?_) ?_); (focus kernel_rfl))
          | (with_reducible refine RUNL.run ?_)
          | ((with_reducible refine AR.ok ?_ ?_); exact ⟨by first | omega | (dsimp only; omega), by first | omega | (dsimp only; omega)⟩)
          | (with_reducible refine AR.wr ?_)
          | ((with_reducible intro w3 e3); try have z3 := cutLe e3)
          | ((with_reducible intro h3); have h4 := Nat.le_of_lt h3; clear h4)))
        refine ⟨(t + 1, (b1, m1, e1')), rfl, ⟨?_, rfl, trivial⟩, rfl, rfl, ⟨by simp only; omega, hz1, hown1⟩, by simp only; omega⟩
        simp [lk, Nat.beq]
    · have hkt : t = 4 := by simp only at hlt; omega
      subst hkt
      repeat (any_goals (
        conv => whnf
        first
        | ((with_reducible refine BIF.dec ?_ ?_) <;> intro _)
        | ((with_reducible refine BIF.s ?_ ?_) <;> intro _)
        | (with_reducible refine NEXTK.normal ?_)
        | (with_reducible refine NEXTK.ret ?_)
        | (with_reducible refine NEXTK.exit ?_)
        | (with_reducible refine SEQ.plain ?_)
        | (with_reducible refine hK _ _ ?_)
        | ((with_reducible refine RUNL.agg (fun _ => ?_) ?_); (focus kernel_rfl))
        | (with_reducible refine RUNL.run ?_)
        | ((with_reducible refine AR.ok ?_ ?_); exact ⟨by first | omega | (dsimp only; omega), by first | omega | (dsimp only; omega)⟩)
        | (with_reducible refine AR.wr ?_)
        | ((with_reducible intro w3 e3); try have z3 := cutLe e3)
        | ((with_reducible intro h3); have h4 := Nat.le_of_lt h3; clear h4)))
      intro hx'
      rw [hf]
      exact ⟨_, rfl, hx', _, rfl, hown⟩
  · have hf : hangingP xs d = ([], false) := by
      unfold hangingP
      rw [if_neg]
      simpa using ho
    repeat (any_goals (
      conv => whnf
      first
      | ((with_reducible refine callF (g := 40) ?_ ?_); kernel_rfl; refine ⟨_, l27Good_c _ _ _ xs _ (by repeat (first | assumption | refine Row.e0 ?_ (by assumption))) hn (by omega), ?_⟩; intro w4 e4; have z4 := cutLe e4)
      | ((with_reducible refine callF (g := 63) ?_ ?_); kernel_rfl; refine ⟨_, l2Day_c _ _, ?_⟩; intro w4 e4; have z4 := cutLe e4)
      | ((exfalso; clear hK; simp_all <;> omega))
      | ((with_reducible refine BIF.dec ?_ ?_) <;> intro _)
      | ((with_reducible refine BIF.s ?_ ?_) <;> intro _)
      | (with_reducible refine NEXTK.normal ?_)
      | (with_reducible refine NEXTK.ret ?_)
      | (with_reducible refine NEXTK.exit ?_)
      | (with_reducible refine SEQ.plain ?_)
      | (with_reducible refine hK _ _ ?_)
      | ((with_reducible refine RUNL.agg (fun _ => ?_) ?_); (focus kernel_rfl))
      | (with_reducible refine RUNL.run ?_)
      | ((with_reducible refine AR.ok ?_ ?_); exact ⟨by first | omega | (dsimp only; omega), by first | omega | (dsimp only; omega)⟩)
      | (with_reducible refine AR.wr ?_)
      | ((with_reducible intro w3 e3); try have z3 := cutLe e3)
      | ((with_reducible intro h3); have h4 := Nat.le_of_lt h3; clear h4)))
    all_goals
      intro hx'
      rw [hf]
      exact ⟨_, rfl, hx', _, rfl, (by clear hx'; repeat (first | exact o1 | exact o1.lo (by omega) | refine Own.e0 ?_ (by assumption)))⟩
def busyP (xs : List Frm) : Int × Int × Bool := if areF xs && decide (0 < xs.length) then ((bUp xs 4001).1, (bUp xs 4001).2, true) else (0, 0, false)
theorem BusiestDay_c (a : Option Addr) (n c : Nat) (xs : List Frm) (w : World) (hr : Row w a 5 (xs.map encFrm)) (hn : xs.length = n) (hm : n ≤ 1048577) :
    Calls Tryd.prog 20 #[.slice a n c] w fun e w' => e = .returned (.tuple #[.int .i64 (busyP xs).1, .int .i64 (busyP xs).2.1, .bool (busyP xs).2.2]) ∧ E0 w w' := by
  refine enterK Non 42 Tryd.func20 rfl rfl rfl fun K hK => ?_
  by_cases ho : areF xs = true ∧ 0 < xs.length
  · have hf : busyP xs = ((bUp xs 4001).1, (bUp xs 4001).2, true) := by simp [busyP, ho]
    have hl := areF_len ho.1
    repeat (any_goals (
      conv => whnf
      first
      | ((with_reducible refine callF (g := 36) ?_ ?_); kernel_rfl; refine ⟨_, AreFrames_c _ _ _ xs _ (by repeat (first | assumption | refine Row.e0 ?_ (by assumption))) hn (by omega), ?_⟩; intro w4 e4; have z4 := cutLe e4)
      | ((exfalso; clear hK; simp_all <;> omega))
      | ((with_reducible refine BIF.beq ?_ ?_) <;> intro _)
      | ((exfalso; omega))
      | ((with_reducible refine BIF.dec ?_ ?_) <;> intro _)
      | ((with_reducible refine BIF.s ?_ ?_) <;> intro _)
      | (with_reducible refine NEXTK.normal ?_)
      | (with_reducible refine NEXTK.ret ?_)
      | (with_reducible refine NEXTK.exit ?_)
      | (with_reducible refine SEQ.plain ?_)
      | (with_reducible refine hK _ _ ?_)
      | ((with_reducible refine RUNL.agg (fun _ => ?_) ?_); (focus kernel_rfl))
      | (with_reducible refine RUNL.run ?_)
      | ((with_reducible refine AR.ok ?_ ?_); exact ⟨by first | omega | (dsimp only; omega), by first | omega | (dsimp only; omega)⟩)
      | (with_reducible refine AR.wr ?_)
      | ((with_reducible intro w3 e3); try have z3 := cutLe e3)
      | ((with_reducible intro h3); have h4 := Nat.le_of_lt h3; clear h4)))
    conv => whnf
    refine LOOP.mk (Nat × Int × Int) (fun g => [(19, .v (.int .i64 g.1)), (5, .v (.int .i64 g.2.1)), (6, .v (.int .i64 g.2.2))]) (fun g _ => g.1 ≤ 4001 ∧ g.2 = bUp xs g.1) (fun g => 4001 - g.1) (0, 0, 0) rfl ⟨rfl, rfl, rfl, trivial⟩ ⟨Nat.zero_le _, rfl⟩ ?_
    rintro ⟨k, best, most⟩ wr - ⟨hk, hs⟩
    simp only at hk hs
    conv => whnf
    repeat (first | ((with_reducible refine NEXTK.normal ?_); conv => whnf) | ((with_reducible refine NEXTK.exit ?_); conv => whnf) | ((with_reducible refine NEXTK.ret ?_); conv => whnf) | ((with_reducible refine SEQ.plain ?_); conv => whnf) | ((with_reducible refine AR.ok ?_ ?_); exact ⟨by omega, by omega⟩; conv => whnf))
    refine BIF.dec (fun hlt => ?_) (fun hlt => ?_)
    · simp only at hlt
      repeat (any_goals (
        conv => whnf
        first
        | ((with_reducible refine BIF.dec ?_ ?_) <;> intro _)
        | ((with_reducible refine BIF.s ?_ ?_) <;> intro _)
        | (with_reducible refine NEXTK.normal ?_)
        | (with_reducible refine NEXTK.ret ?_)
        | (with_reducible refine NEXTK.exit ?_)
        | (with_reducible refine SEQ.plain ?_)
        | (with_reducible refine hK _ _ ?_)
        | ((with_reducible refine RUNL.agg (fun _ => ?_) ?_); (focus kernel_rfl))
        | (with_reducible refine RUNL.run ?_)
        | ((with_reducible refine AR.ok ?_ ?_); exact ⟨by first | omega | (dsimp only; omega), by first | omega | (dsimp only; omega)⟩)
        | (with_reducible refine AR.wr ?_)
        | ((with_reducible intro w3 e3); try have z3 := cutLe e3)
        | ((with_reducible intro h3); have h4 := Nat.le_of_lt h3; clear h4)))
      conv => whnf
      refine LOOP.mk (Nat × Int) (fun g => [(24, .v (.int .i64 g.1)), (8, .v (.int .i64 g.2))]) (fun g _ => g.1 ≤ n ∧ g.2 = cntD (xs.take g.1) k) (fun g => n - g.1) (0, 0) rfl ⟨rfl, rfl, trivial⟩ ⟨Nat.zero_le _, rfl⟩ ?_
      rintro ⟨j, s⟩ ws - ⟨hj, hcs⟩
      simp only at hj hcs
      have hcl := cntD_le (xs.take j) k
      have hcl2 : cntD (xs.take j) k ≤ 12 := by simp at hcl; omega
      conv => whnf
      repeat (first | ((with_reducible refine NEXTK.normal ?_); conv => whnf) | ((with_reducible refine NEXTK.exit ?_); conv => whnf) | ((with_reducible refine NEXTK.ret ?_); conv => whnf) | ((with_reducible refine SEQ.plain ?_); conv => whnf) | ((with_reducible refine AR.ok ?_ ?_); exact ⟨by omega, by omega⟩; conv => whnf))
      refine BIF.dec (fun hlt1 => ?_) (fun hlt1 => ?_)
      · have hlt' : j < xs.length := by simp only at hlt1; omega
        have his := hr.isSome (by simp; omega)
        obtain ⟨x, hx⟩ : ∃ x, xs[j]? = some x := ⟨xs[j]'(by omega), by simp⟩
        have hct := cntD_take (k : Int) hx
        repeat (any_goals (
          conv => whnf
          first
          | ((with_reducible refine OBL.mk ?_ (fun _ => ?_)); exact ⟨by first | omega | (dsimp only; omega), by first | omega | (dsimp only; omega), his⟩)
          | ((with_reducible refine ELD.at (j) hr ?_ ?_ ?_ (fun x' hx' => ?_)); exact mAddr_Non _; (first | rfl | omega); exact hlt'; obtain rfl : x = x' := by (rw [hx] at hx'; exact Option.some.inj hx'))
          | ((with_reducible refine callF (g := 54) ?_ ?_); kernel_rfl; refine ⟨_, hangs_c _ _ _, ?_⟩; intro w4 e4; have z4 := cutLe e4)
          | ((with_reducible refine BIF.dec ?_ ?_) <;> intro _)
          | ((with_reducible refine BIF.s ?_ ?_) <;> intro _)
          | (with_reducible refine NEXTK.normal ?_)
          | (with_reducible refine NEXTK.ret ?_)
          | (with_reducible refine NEXTK.exit ?_)
          | (with_reducible refine SEQ.plain ?_)
          | (with_reducible refine hK _ _ ?_)
          | ((with_reducible refine RUNL.agg (fun _ => ?_) ?_); (focus kernel_rfl))
          | (with_reducible refine RUNL.run ?_)
          | ((with_reducible refine AR.ok ?_ ?_); exact ⟨by first | omega | (dsimp only; omega), by first | omega | (dsimp only; omega)⟩)
          | (with_reducible refine AR.wr ?_)
          | ((with_reducible intro w3 e3); try have z3 := cutLe e3)
          | ((with_reducible intro h3); have h4 := Nat.le_of_lt h3; clear h4)))
        all_goals
          rename_i hb
          refine ⟨(j + 1, _), rfl, ⟨rfl, rfl, trivial⟩, rfl, rfl, ⟨by simp only; omega, ?_⟩, by simp only; omega⟩
          simp_all [onDay]
      · have hkj : j = xs.length := by simp only at hlt1; omega
        rw [hkj, List.take_length] at hcs
        have hbs : bUp xs (k + 1) = bStep xs (bUp xs k) k := rfl
        rw [← hs] at hbs
        simp only [bStep, ← hcs] at hbs
        repeat (any_goals (
          conv => whnf
          first
          | ((with_reducible refine BIF.dec ?_ ?_) <;> intro _)
          | ((with_reducible refine BIF.s ?_ ?_) <;> intro _)
          | (with_reducible refine NEXTK.normal ?_)
          | (with_reducible refine NEXTK.ret ?_)
          | (with_reducible refine NEXTK.exit ?_)
          | (with_reducible refine SEQ.plain ?_)
          | (with_reducible refine hK _ _ ?_)
          | ((with_reducible refine RUNL.agg (fun _ => ?_) ?_); (focus kernel_rfl))
          | (with_reducible refine RUNL.run ?_)
          | ((with_reducible refine AR.ok ?_ ?_); exact ⟨by first | omega | (dsimp only; omega), by first | omega | (dsimp only; omega)⟩)
          | (with_reducible refine AR.wr ?_)
          | ((with_reducible intro w3 e3); try have z3 := cutLe e3)
          | ((with_reducible intro h3); have h4 := Nat.le_of_lt h3; clear h4)))
        all_goals
          simp only at *
          refine ⟨(k + 1, _, _), rfl, ⟨rfl, rfl, rfl, trivial⟩, rfl, rfl, ⟨by simp only; omega, ?_⟩, by simp only; omega⟩
          rw [hbs]
          first
          | rw [if_pos (by omega)]
          | rw [if_neg (by omega)]
    · have hkt : k = 4001 := by simp only at hlt; omega
      subst hkt
      repeat (any_goals (
        conv => whnf
        first
        | ((with_reducible refine BIF.dec ?_ ?_) <;> intro _)
        | ((with_reducible refine BIF.s ?_ ?_) <;> intro _)
        | (with_reducible refine NEXTK.normal ?_)
        | (with_reducible refine NEXTK.ret ?_)
        | (with_reducible refine NEXTK.exit ?_)
        | (with_reducible refine SEQ.plain ?_)
        | (with_reducible refine hK _ _ ?_)
        | ((with_reducible refine RUNL.agg (fun _ => ?_) ?_); (focus kernel_rfl))
        | (with_reducible refine RUNL.run ?_)
        | ((with_reducible refine AR.ok ?_ ?_); exact ⟨by first | omega | (dsimp only; omega), by first | omega | (dsimp only; omega)⟩)
        | (with_reducible refine AR.wr ?_)
        | ((with_reducible intro w3 e3); try have z3 := cutLe e3)
        | ((with_reducible intro h3); have h4 := Nat.le_of_lt h3; clear h4)))
      intro hx'
      refine ⟨?_, hx'⟩
      rw [hf, ← hs]; rfl
  · have hf : busyP xs = (0, 0, false) := by
      unfold busyP
      rw [if_neg]
      simpa using ho
    repeat (any_goals (
      conv => whnf
      first
      | ((with_reducible refine callF (g := 36) ?_ ?_); kernel_rfl; refine ⟨_, AreFrames_c _ _ _ xs _ (by repeat (first | assumption | refine Row.e0 ?_ (by assumption))) hn (by omega), ?_⟩; intro w4 e4; have z4 := cutLe e4)
      | ((with_reducible refine BIF.beq ?_ ?_) <;> intro _)
      | ((exfalso; clear hK; simp_all <;> omega))
      | ((exfalso; simp_all; omega))
      | ((with_reducible refine BIF.dec ?_ ?_) <;> intro _)
      | ((with_reducible refine BIF.s ?_ ?_) <;> intro _)
      | (with_reducible refine NEXTK.normal ?_)
      | (with_reducible refine NEXTK.ret ?_)
      | (with_reducible refine NEXTK.exit ?_)
      | (with_reducible refine SEQ.plain ?_)
      | (with_reducible refine hK _ _ ?_)
      | ((with_reducible refine RUNL.agg (fun _ => ?_) ?_); (focus kernel_rfl))
      | (with_reducible refine RUNL.run ?_)
      | ((with_reducible refine AR.ok ?_ ?_); exact ⟨by first | omega | (dsimp only; omega), by first | omega | (dsimp only; omega)⟩)
      | (with_reducible refine AR.wr ?_)
      | ((with_reducible intro w3 e3); try have z3 := cutLe e3)
      | ((with_reducible intro h3); have h4 := Nat.le_of_lt h3; clear h4)))
    all_goals
      intro hx'
      rw [hf]
      exact ⟨rfl, hx'⟩
theorem BusiestDayS_c (a : Option Addr) (n c : Nat) (xs : List Frm) (w : World) (hr : Row w a 5 (xs.map encFrm)) (hn : xs.length = n) (hm : n ≤ 1048577) :
    Calls Tryd.prog 21 #[.slice a n c] w fun e w' => e = .returned (.tuple #[.int .i64 (busyP xs).1, .int .i64 (busyP xs).2.1, .bool (busyP xs).2.2]) ∧ E0 w w' := by
  refine enterK Non 62 Tryd.func21 rfl rfl rfl fun K hK => ?_
  by_cases ho : areF xs = true ∧ 0 < xs.length
  · have hf : busyP xs = ((sUp xs xs.length).1, (sUp xs xs.length).2, true) := by rw [← busy_eq ho.1 ho.2]; simp [busyP, ho]
    have hl := areF_len ho.1
    repeat (any_goals (
      conv => whnf
      first
      | ((with_reducible refine callF (g := 40) ?_ ?_); kernel_rfl; refine ⟨_, l27Good_c _ _ _ xs _ (by repeat (first | assumption | refine Row.e0 ?_ (by assumption))) hn (by omega), ?_⟩; intro w4 e4; have z4 := cutLe e4)
      | ((exfalso; clear hK; simp_all <;> omega))
      | ((with_reducible refine BIF.beq ?_ ?_) <;> intro _)
      | ((exfalso; omega))
      | ((with_reducible refine BIF.dec ?_ ?_) <;> intro _)
      | ((with_reducible refine BIF.s ?_ ?_) <;> intro _)
      | (with_reducible refine NEXTK.normal ?_)
      | (with_reducible refine NEXTK.ret ?_)
      | (with_reducible refine NEXTK.exit ?_)
      | (with_reducible refine SEQ.plain ?_)
      | (with_reducible refine hK _ _ ?_)
      | ((with_reducible refine RUNL.agg (fun _ => ?_) ?_); (focus kernel_rfl))
      | (with_reducible refine RUNL.run ?_)
      | ((with_reducible refine AR.ok ?_ ?_); exact ⟨by first | omega | (dsimp only; omega), by first | omega | (dsimp only; omega)⟩)
      | (with_reducible refine AR.wr ?_)
      | ((with_reducible intro w3 e3); try have z3 := cutLe e3)
      | ((with_reducible intro h3); have h4 := Nat.le_of_lt h3; clear h4)))
    conv => whnf
    refine LOOP.mk (Nat × Int × Int) (fun g => [(7, .v (.int .i64 g.1)), (5, .v (.int .i64 g.2.1)), (6, .v (.int .i64 g.2.2))]) (fun g _ => g.1 ≤ n ∧ g.2 = sUp xs g.1) (fun g => n - g.1) (0, 0, 0) rfl ⟨rfl, rfl, rfl, trivial⟩ ⟨Nat.zero_le _, rfl⟩ ?_
    rintro ⟨k, best, most⟩ wr - ⟨hk, hs⟩
    simp only at hk hs
    conv => whnf
    repeat (first | ((with_reducible refine NEXTK.normal ?_); conv => whnf) | ((with_reducible refine NEXTK.exit ?_); conv => whnf) | ((with_reducible refine NEXTK.ret ?_); conv => whnf) | ((with_reducible refine SEQ.plain ?_); conv => whnf) | ((with_reducible refine AR.ok ?_ ?_); exact ⟨by omega, by omega⟩; conv => whnf))
    refine BIF.dec (fun hlt => ?_) (fun hlt => ?_)
    · have hlt' : k < xs.length := by simp only at hlt; omega
      have his := hr.isSome (by simp; omega)
      obtain ⟨x, hx⟩ : ∃ x, xs[k]? = some x := ⟨xs[k]'(by omega), by simp⟩
      have hok := okF_spec (areF_at ho.1 hx)
      have hbs := sUp_at hx
      rw [← hs] at hbs
      simp only [sStep] at hbs
      have hhp : hangingP xs x.fFrom = (hangUp xs x.fFrom 4, true) := by
        have : inB x.fFrom 0 4000 = true := inB_iff.2 ⟨by omega, by omega⟩
        simp [hangingP, ho.1, this]
      have hhl : (hangingP xs x.fFrom).1.length = cntD xs x.fFrom := by
        rw [hhp]
        exact hangUp_cnt _ (fun y hy => by have := okF_spec (areF_ok ho.1 y hy); omega)
      repeat (any_goals (
        conv => whnf
        first
        | ((with_reducible refine OBL.mk ?_ (fun _ => ?_)); exact ⟨by first | omega | (dsimp only; omega), by first | omega | (dsimp only; omega), his⟩)
        | ((with_reducible refine ELD.at (k) hr ?_ ?_ ?_ (fun x' hx' => ?_)); exact mAddr_Non _; (first | rfl | omega); exact hlt'; obtain rfl : x = x' := by (rw [hx] at hx'; exact Option.some.inj hx'))
        | ((with_reducible refine BIF.dec ?_ ?_) <;> intro _)
        | ((with_reducible refine BIF.s ?_ ?_) <;> intro _)
        | (with_reducible refine NEXTK.normal ?_)
        | (with_reducible refine NEXTK.ret ?_)
        | (with_reducible refine NEXTK.exit ?_)
        | (with_reducible refine SEQ.plain ?_)
        | (with_reducible refine hK _ _ ?_)
        | ((with_reducible refine RUNL.agg (fun _ => ?_) ?_); (focus kernel_rfl))
        | (with_reducible refine RUNL.run ?_)
        | ((with_reducible refine AR.ok ?_ ?_); exact ⟨by first | omega | (dsimp only; omega), by first | omega | (dsimp only; omega)⟩)
        | (with_reducible refine AR.wr ?_)
        | ((with_reducible intro w3 e3); try have z3 := cutLe e3)
        | ((with_reducible intro h3); have h4 := Nat.le_of_lt h3; clear h4)))
      conv => whnf
      refine callY (g := 58) (by kernel_rfl) ⟨_, fun x' => HangingOnS_c _ _ _ xs x.fFrom _ (hr.ext x' (mAddr_Non _)) hn (by omega), fun r w5 e5 h5 => ?_⟩
      obtain ⟨v5, rfl, o5⟩ := h5
      obtain ⟨b5, d5, rfl, q5, p5⟩ := o5.rowx
      rw [hhl]
      repeat (any_goals (
        conv => whnf
        first
        | ((with_reducible refine OBL.mk ?_ (fun _ => ?_)); exact ⟨by first | omega | (dsimp only; omega), by first | omega | (dsimp only; omega), his⟩)
        | ((with_reducible refine ELD.at (k) hr ?_ ?_ ?_ (fun x' hx' => ?_)); exact mAddr_Non _; (first | rfl | omega); exact hlt'; obtain rfl : x = x' := by (rw [hx] at hx'; exact Option.some.inj hx'))
        | ((with_reducible refine BIF.beq ?_ ?_) <;> intro _)
        | ((with_reducible refine BIF.dec ?_ ?_) <;> intro _)
        | ((with_reducible refine BIF.s ?_ ?_) <;> intro _)
        | (with_reducible refine NEXTK.normal ?_)
        | (with_reducible refine NEXTK.ret ?_)
        | (with_reducible refine NEXTK.exit ?_)
        | (with_reducible refine SEQ.plain ?_)
        | (with_reducible refine hK _ _ ?_)
        | ((with_reducible refine RUNL.agg (fun _ => ?_) ?_); (focus kernel_rfl))
        | (with_reducible refine RUNL.run ?_)
        | ((with_reducible refine AR.ok ?_ ?_); exact ⟨by first | omega | (dsimp only; omega), by first | omega | (dsimp only; omega)⟩)
        | (with_reducible refine AR.wr ?_)
        | ((with_reducible intro w3 e3); try have z3 := cutLe e3)
        | ((with_reducible intro h3); have h4 := Nat.le_of_lt h3; clear h4)))
      all_goals
        simp only at *
        refine ⟨(k + 1, _, _), rfl, ⟨rfl, rfl, rfl, trivial⟩, rfl, rfl, ⟨by simp only; omega, ?_⟩, by simp only; omega⟩
        rw [hbs]
        first
        | rw [if_pos (by omega)]
        | rw [if_neg (by omega)]
    · have hkj : k = xs.length := by simp only at hlt; omega
      subst hkj
      repeat (any_goals (
        conv => whnf
        first
        | ((with_reducible refine BIF.dec ?_ ?_) <;> intro _)
        | ((with_reducible refine BIF.s ?_ ?_) <;> intro _)
        | (with_reducible refine NEXTK.normal ?_)
        | (with_reducible refine NEXTK.ret ?_)
        | (with_reducible refine NEXTK.exit ?_)
        | (with_reducible refine SEQ.plain ?_)
        | (with_reducible refine hK _ _ ?_)
        | ((with_reducible refine RUNL.agg (fun _ => ?_) ?_); (focus kernel_rfl))
        | (with_reducible refine RUNL.run ?_)
        | ((with_reducible refine AR.ok ?_ ?_); exact ⟨by first | omega | (dsimp only; omega), by first | omega | (dsimp only; omega)⟩)
        | (with_reducible refine AR.wr ?_)
        | ((with_reducible intro w3 e3); try have z3 := cutLe e3)
        | ((with_reducible intro h3); have h4 := Nat.le_of_lt h3; clear h4)))
      intro hx'
      refine ⟨?_, hx'⟩
      rw [hf, ← hs]; rfl
  · have hf : busyP xs = (0, 0, false) := by
      unfold busyP
      rw [if_neg]
      simpa using ho
    repeat (any_goals (
      conv => whnf
      first
      | ((with_reducible refine callF (g := 40) ?_ ?_); kernel_rfl; refine ⟨_, l27Good_c _ _ _ xs _ (by repeat (first | assumption | refine Row.e0 ?_ (by assumption))) hn (by omega), ?_⟩; intro w4 e4; have z4 := cutLe e4)
      | ((with_reducible refine BIF.beq ?_ ?_) <;> intro _)
      | ((exfalso; clear hK; simp_all <;> omega))
      | ((exfalso; simp_all; omega))
      | ((with_reducible refine BIF.dec ?_ ?_) <;> intro _)
      | ((with_reducible refine BIF.s ?_ ?_) <;> intro _)
      | (with_reducible refine NEXTK.normal ?_)
      | (with_reducible refine NEXTK.ret ?_)
      | (with_reducible refine NEXTK.exit ?_)
      | (with_reducible refine SEQ.plain ?_)
      | (with_reducible refine hK _ _ ?_)
      | ((with_reducible refine RUNL.agg (fun _ => ?_) ?_); (focus kernel_rfl))
      | (with_reducible refine RUNL.run ?_)
      | ((with_reducible refine AR.ok ?_ ?_); exact ⟨by first | omega | (dsimp only; omega), by first | omega | (dsimp only; omega)⟩)
      | (with_reducible refine AR.wr ?_)
      | ((with_reducible intro w3 e3); try have z3 := cutLe e3)
      | ((with_reducible intro h3); have h4 := Nat.le_of_lt h3; clear h4)))
    all_goals
      intro hx'
      rw [hf]
      exact ⟨rfl, hx'⟩

end Go.Proofs.YthgeeocmhdpgiaaDoor

/- ThankFor. -/
import Derived.Test.YtohnoccmaeegdaaRows
import Derived.Test.YtohnoccmaeegdaaGifts6
namespace Go.Proofs.Ytohnoccmaeegdaa
open Go Go.X Go.Proofs Go.ChangeShapes Go.WideShapes Go.ChangeAt Go.RowKit
open Go.ChangeMaps (open_string shut_string)
set_option maxHeartbeats 1000000
set_option maxRecDepth 20000
set_option linter.unusedVariables false
set_option linter.unusedSimpArgs false
def tkB (id : Int) (x : Gft) : Bool := decide (x.fId = id) && decide (x.fThanks = -1)
def setT (x : Gft) (d : Int) : Gft := ⟨x.fId, x.fGiver, x.fSheets, x.fDay, d⟩
def tkF (id d : Int) (x : Gft) : Gft := if tkB id x then setT x d else x
def thankP (xs : List Gft) (id d : Int) : List Gft × Bool :=
  if areG xs && xs.any (tkB id) && inB d 0 4000 && areG (xs.map (tkF id d)) then (xs.map (tkF id d), true) else ([], false)
theorem thankP_len (xs : List Gft) (id d : Int) : (thankP xs id d).1.length ≤ xs.length := by
  unfold thankP
  split <;> simp
theorem thankP_bad {xs : List Gft} {id d : Int} (h : areG xs = false ∨ xs.any (tkB id) = false ∨ inB d 0 4000 = false) : thankP xs id d = ([], false) := by
  unfold thankP
  rcases h with h | h | h <;> simp [h]
theorem thankP_good {xs : List Gft} {id d : Int} (h1 : areG xs = true) (h2 : xs.any (tkB id) = true) (h3 : inB d 0 4000 = true) : thankP xs id d = if areG (xs.map (tkF id d)) then (xs.map (tkF id d), true) else ([], false) := by
  unfold thankP
  simp only [h1, h2, h3, Bool.true_and]
theorem idAt_neg {xs : List Gft} {id : Int} (h : idAt xs id = -1) : ∀ x ∈ xs, x.fId ≠ id := by
  unfold idAt at h
  cases hf : xs.findIdx? (fun x => x.fId == id) with
  | none =>
    rw [List.findIdx?_eq_none_iff] at hf
    intro x hx
    simpa using hf x hx
  | some k =>
    rw [hf] at h
    simp only at h
    omega
theorem areG_lt {xs : List Gft} (h : areG xs = true) : ∀ (m i : Nat) (x y : Gft), xs[i]? = some x → xs[i + (m + 1)]? = some y → x.fId < y.fId := by
  have hstep : ∀ (i : Nat) (x y : Gft), xs[i]? = some x → xs[i + 1]? = some y → x.fId < y.fId := by
    intro i x y hx hy
    simp only [areG, gUpto, Bool.and_eq_true, List.all_eq_true, List.mem_range] at h
    have hk := (List.getElem?_eq_some_iff.1 hy).1
    have := h.1 (i + 1) hk
    simp only [gAt, hy, Nat.add_sub_cancel, hx, Bool.and_eq_true, Bool.or_eq_true, decide_eq_true_eq] at this
    rcases this.2 with h0 | h0
    · simp at h0
    · exact h0.1
  intro m
  induction m with
  | zero => exact hstep
  | succ m ih =>
    intro i x y hx hy
    obtain ⟨z, hz⟩ : ∃ z, xs[i + (m + 1)]? = some z := by
      have hk := (List.getElem?_eq_some_iff.1 hy).1
      exact ⟨xs[i + (m + 1)]'(by omega), by simp⟩
    have h1 := ih i x z hx hz
    have h2 := hstep (i + (m + 1)) z y hz (by rw [show i + (m + 1) + 1 = i + (m + 1 + 1) from by omega]; exact hy)
    omega
theorem areG_uniq {xs : List Gft} (h : areG xs = true) {i j : Nat} {x y : Gft} (hx : xs[i]? = some x) (hy : xs[j]? = some y) (he : x.fId = y.fId) : i = j := by
  rcases Nat.lt_trichotomy i j with hl | hl | hl
  · obtain ⟨m, rfl⟩ : ∃ m, j = i + (m + 1) := ⟨j - i - 1, by omega⟩
    have := areG_lt h m i x y hx hy; omega
  · exact hl
  · obtain ⟨m, rfl⟩ : ∃ m, i = j + (m + 1) := ⟨i - j - 1, by omega⟩
    have := areG_lt h m j y x hy hx; omega
theorem tk_set {xs : List Gft} (h : areG xs = true) {k : Nat} {x : Gft} {id : Int} (d : Int) (hx : xs[k]? = some x) (hid : x.fId = id) (ht : x.fThanks = -1) : xs.map (tkF id d) = xs.set k (setT x d) := by
  apply List.ext_getElem?
  intro i
  rw [List.getElem?_map]
  by_cases hik : k = i
  · subst hik
    rw [hx, List.getElem?_set_self (List.getElem?_eq_some_iff.1 hx).1]
    simp [tkF, tkB, hid, ht]
  · rw [List.getElem?_set_ne hik]
    cases hy : xs[i]? with
    | none => rfl
    | some y =>
      have : ¬ y.fId = id := fun e => hik (areG_uniq h hx hy (by rw [hid, e]))
      simp [tkF, tkB, this]
theorem tk_any {xs : List Gft} {k : Nat} {x : Gft} {id : Int} (hx : xs[k]? = some x) (hid : x.fId = id) (ht : x.fThanks = -1) : xs.any (tkB id) = true := by
  rw [List.any_eq_true]
  exact ⟨x, List.mem_of_getElem? hx, by simp [tkB, hid, ht]⟩
theorem tk_none {xs : List Gft} (h : areG xs = true) {k : Nat} {x : Gft} {id : Int} (hx : xs[k]? = some x) (hid : x.fId = id) (ht : ¬ x.fThanks = -1) : xs.any (tkB id) = false := by
  rw [List.any_eq_false]
  intro y hy
  obtain ⟨j, hj⟩ := List.getElem?_of_mem hy
  by_cases e : y.fId = id
  · have := areG_uniq h hx hj (by rw [hid, e])
    subst this
    rw [hx] at hj; cases hj
    simp [tkB, ht]
  · simp [tkB, e]
theorem ThankFor_c (a : Option Addr) (n c : Nat) (xs : List Gft) (id d : Int) (w : World) (hr : Row w a 5 (xs.map encGft)) (hn : xs.length = n) (hm : n ≤ 1048577) :
    Calls Try.prog 14 #[.slice a n c, .int .i64 id, .int .i64 d] w fun e w' => ∃ r, e = .returned r ∧ E0 w w' ∧ ∃ s, r = .tuple #[s, .bool (thankP xs id d).2] ∧ Own w' w.heap.size 63 5 s ((thankP xs id d).1.map encGft) := by
  refine enterK Non 44 Try.func14 rfl rfl rfl fun K hK => ?_
  rcases idAt_spec xs id with hi | ⟨k, x, hi, hk, hx, hid⟩
  · have hf : thankP xs id d = ([], false) := thankP_bad (.inr (.inl (by rw [List.any_eq_false]; intro y hy; simp [tkB, idAt_neg hi y hy])))
    repeat (any_goals (
      conv => whnf
      first
      | ((with_reducible refine callF (g := 47) ?_ ?_); kernel_rfl; refine ⟨_, giftAt_c _ _ _ xs id _ (by repeat (first | assumption | refine Row.e0 ?_ (by assumption))) hn (by omega), ?_⟩; intro w4 e4; have z4 := cutLe e4)
      | ((with_reducible refine callF (g := 22) ?_ ?_); kernel_rfl; refine ⟨_, AreGifts_c _ _ _ xs _ (by repeat (first | assumption | refine Row.e0 ?_ (by assumption))) hn (by omega), ?_⟩; intro w4 e4; have z4 := cutLe e4)
      | ((with_reducible refine callF (g := 43) ?_ ?_); kernel_rfl; refine ⟨_, isDay_c _ _, ?_⟩; intro w4 e4; have z4 := cutLe e4)
      | ((exfalso; omega))
      | ((with_reducible refine BIF.dec ?_ ?_) <;> intro _)
      | ((with_reducible refine BIF.s ?_ ?_) <;> intro _)
      | (with_reducible refine NEXTK.normal ?_)
      | (with_reducible refine NEXTK.ret ?_)
      | (with_reducible refine NEXTK.exit ?_)
      | (with_reducible refine SEQ.plain ?_)
      | (with_reducible refine hK _ _ ?_)
      | ((with_reducible refine RUNL.agg (fun _ => ?_) ?_); (focus kernel_rfl))
      | (with_reducible refine RUNL.run ?_)
      | ((with_reducible refine AR.ok ?_ ?_); exact ⟨by first | omega | (dsimp only; omega), by first | omega | (dsimp only; omega)⟩)
      | (with_reducible refine AR.wr ?_)
      | ((with_reducible intro w3 e3); try have z3 := cutLe e3)
      | ((with_reducible intro h3); have h4 := Nat.le_of_lt h3; clear h4)))
    all_goals
      intro hx'
      rw [hf]
      exact ⟨_, rfl, hx', _, rfl, Own.nil _ _ _ _⟩
  · have his0 := hr.isSome (by simp; omega)
    by_cases hall : areG xs = true ∧ x.fThanks = -1 ∧ inB d 0 4000 = true
    · obtain ⟨ho, ht, hd⟩ := hall
      have hgd := thankP_good (d := d) ho (tk_any hx hid ht) hd
      have hst := tk_set ho d hx hid ht
      repeat (any_goals (
        conv => whnf
        first
        | ((with_reducible refine callF (g := 47) ?_ ?_); kernel_rfl; refine ⟨_, giftAt_c _ _ _ xs id _ (by repeat (first | assumption | refine Row.e0 ?_ (by assumption))) hn (by omega), ?_⟩; intro w4 e4; have z4 := cutLe e4)
        | ((with_reducible refine callF (g := 22) ?_ ?_); kernel_rfl; refine ⟨_, AreGifts_c _ _ _ xs _ (by repeat (first | assumption | refine Row.e0 ?_ (by assumption))) hn (by omega), ?_⟩; intro w4 e4; have z4 := cutLe e4)
        | ((with_reducible refine callF (g := 43) ?_ ?_); kernel_rfl; refine ⟨_, isDay_c _ _, ?_⟩; intro w4 e4; have z4 := cutLe e4)
        | ((with_reducible refine BIF.s (fun h => absurd h ?_) (fun _ => ?_)); focus (first | (simp; done) | (simp; omega)))
        | ((with_reducible refine BIF.s (fun _ => ?_) (fun h => absurd h ?_)); rotate_left; focus (first | (simp; done) | (simp; omega)))
        | ((exfalso; omega))
        | ((with_reducible refine OBL.mk ?_ (fun _ => ?_)); exact ⟨by first | omega | (dsimp only; omega), by first | omega | (dsimp only; omega), his0⟩)
        | ((with_reducible refine ELD.at (k) hr ?_ ?_ ?_ (fun x' hx' => ?_)); exact mAddr_Non _; (first | rfl | omega); exact hk; obtain rfl : x = x' := by (rw [hx] at hx'; exact Option.some.inj hx'))
        | ((with_reducible refine BIF.bne ?_ ?_) <;> intro _)
        | ((exfalso; clear hK; simp_all; done))
        | ((with_reducible refine BIF.dec ?_ ?_) <;> intro _)
        | ((with_reducible refine BIF.s ?_ ?_) <;> intro _)
        | (with_reducible refine NEXTK.normal ?_)
        | (with_reducible refine NEXTK.ret ?_)
        | (with_reducible refine NEXTK.exit ?_)
        | (with_reducible refine SEQ.plain ?_)
        | (with_reducible refine hK _ _ ?_)
        | ((with_reducible refine RUNL.agg (fun _ => ?_) ?_); (focus kernel_rfl))
        | (with_reducible refine RUNL.run ?_)
        | ((with_reducible refine AR.ok ?_ ?_); exact ⟨by first | omega | (dsimp only; omega), by first | omega | (dsimp only; omega)⟩)
        | (with_reducible refine AR.wr ?_)
        | ((with_reducible intro w3 e3); try have z3 := cutLe e3)
        | ((with_reducible intro h3); have h4 := Nat.le_of_lt h3; clear h4)))
      conv => whnf
      refine callY (g := 39) (by kernel_rfl) ⟨_, fun x => CloneGft_c _ _ _ xs _ (hr.ext x (mAddr_Non _)) hn (by omega), fun r w1 e1 o1 => ?_⟩
      have z1' := cutLe e1
      obtain ⟨b1, d1, rfl, q1, p1⟩ := o1.rowx
      have his := q1.isSome (by simp; omega)
      repeat (any_goals (
        conv => whnf
        first
        | ((with_reducible refine OBL.mk ?_ (fun _ => ?_)); exact ⟨by first | omega | (dsimp only; omega), by first | omega | (dsimp only; omega), his⟩)
        | ((with_reducible refine BIF.dec ?_ ?_) <;> intro _)
        | ((with_reducible refine BIF.s ?_ ?_) <;> intro _)
        | (with_reducible refine NEXTK.normal ?_)
        | (with_reducible refine NEXTK.ret ?_)
        | (with_reducible refine NEXTK.exit ?_)
        | (with_reducible refine SEQ.plain ?_)
        | (with_reducible refine hK _ _ ?_)
        | ((with_reducible refine RUNL.agg (fun _ => ?_) ?_); (focus kernel_rfl))
        | (with_reducible refine RUNL.run ?_)
        | ((with_reducible refine AR.ok ?_ ?_); exact ⟨by first | omega | (dsimp only; omega), by first | omega | (dsimp only; omega)⟩)
        | (with_reducible refine AR.wr ?_)
        | ((with_reducible intro w3 e3); try have z3 := cutLe e3)
        | ((with_reducible intro h3); have h4 := Nat.le_of_lt h3; clear h4)))
      conv => whnf
      refine stS (i := _) o1 rfl rfl rfl k hi.symm (by rw [List.getElem?_map, hx]; rfl) (by decide) (by show w.heap.size ≤ _; omega) trivial (fun w5 e5 o5 => ?_)
      replace o5 : Own w5 w4.heap.size 63 5 (.slice b1 xs.length d1) ((xs.map (tkF id d)).map encGft) := by rw [hst, List.map_set]; exact o5
      repeat (any_goals (
        conv => whnf
        first
        | ((with_reducible refine callF (g := 22) ?_ ?_); kernel_rfl; refine ⟨_, AreGifts_c _ _ _ (xs.map (tkF id d)) _ o5.row.1 (by simp) (by omega), ?_⟩; intro w4 e4; have z4 := cutLe e4)
        | ((with_reducible refine BIF.dec ?_ ?_) <;> intro _)
        | ((with_reducible refine BIF.s ?_ ?_) <;> intro _)
        | (with_reducible refine NEXTK.normal ?_)
        | (with_reducible refine NEXTK.ret ?_)
        | (with_reducible refine NEXTK.exit ?_)
        | (with_reducible refine SEQ.plain ?_)
        | (with_reducible refine hK _ _ ?_)
        | ((with_reducible refine RUNL.agg (fun _ => ?_) ?_); (focus kernel_rfl))
        | (with_reducible refine RUNL.run ?_)
        | ((with_reducible refine AR.ok ?_ ?_); exact ⟨by first | omega | (dsimp only; omega), by first | omega | (dsimp only; omega)⟩)
        | (with_reducible refine AR.wr ?_)
        | ((with_reducible intro w3 e3); try have z3 := cutLe e3)
        | ((with_reducible intro h3); have h4 := Nat.le_of_lt h3; clear h4)))
      · intro hx'
        have hf : thankP xs id d = ([], false) := by rw [hgd]; simp_all
        rw [hf]; exact ⟨_, rfl, hx', _, rfl, Own.nil _ _ _ _⟩
      · intro hx'
        have hf : thankP xs id d = (xs.map (tkF id d), true) := by rw [hgd]; simp_all
        rw [hf]; exact ⟨_, rfl, hx', _, rfl, by simpa using (o5.e0 e4).lo (by omega)⟩
    · have hf : thankP xs id d = ([], false) := by
        by_cases ho : areG xs = true
        · by_cases ht : x.fThanks = -1
          · exact thankP_bad (.inr (.inr (by cases h : inB d 0 4000 with
              | false => rfl
              | true => exact absurd ⟨ho, ht, h⟩ hall)))
          · exact thankP_bad (.inr (.inl (tk_none ho hx hid ht)))
        · exact thankP_bad (.inl (by simpa using ho))
      repeat (any_goals (
        conv => whnf
        first
        | ((with_reducible refine callF (g := 47) ?_ ?_); kernel_rfl; refine ⟨_, giftAt_c _ _ _ xs id _ (by repeat (first | assumption | refine Row.e0 ?_ (by assumption))) hn (by omega), ?_⟩; intro w4 e4; have z4 := cutLe e4)
        | ((with_reducible refine callF (g := 22) ?_ ?_); kernel_rfl; refine ⟨_, AreGifts_c _ _ _ xs _ (by repeat (first | assumption | refine Row.e0 ?_ (by assumption))) hn (by omega), ?_⟩; intro w4 e4; have z4 := cutLe e4)
        | ((with_reducible refine callF (g := 43) ?_ ?_); kernel_rfl; refine ⟨_, isDay_c _ _, ?_⟩; intro w4 e4; have z4 := cutLe e4)
        | ((exfalso; omega))
        | ((with_reducible refine OBL.mk ?_ (fun _ => ?_)); exact ⟨by first | omega | (dsimp only; omega), by first | omega | (dsimp only; omega), his0⟩)
        | ((with_reducible refine ELD.at (k) hr ?_ ?_ ?_ (fun x' hx' => ?_)); exact mAddr_Non _; (first | rfl | omega); exact hk; obtain rfl : x = x' := by (rw [hx] at hx'; exact Option.some.inj hx'))
        | ((with_reducible refine BIF.bne ?_ ?_) <;> intro _)
        | ((exfalso; clear hK hf; simp_all; done))
        | ((with_reducible refine BIF.dec ?_ ?_) <;> intro _)
        | ((with_reducible refine BIF.s ?_ ?_) <;> intro _)
        | (with_reducible refine NEXTK.normal ?_)
        | (with_reducible refine NEXTK.ret ?_)
        | (with_reducible refine NEXTK.exit ?_)
        | (with_reducible refine SEQ.plain ?_)
        | (with_reducible refine hK _ _ ?_)
        | ((with_reducible refine RUNL.agg (fun _ => ?_) ?_); (focus kernel_rfl))
        | (with_reducible refine RUNL.run ?_)
        | ((with_reducible refine AR.ok ?_ ?_); exact ⟨by first | omega | (dsimp only; omega), by first | omega | (dsimp only; omega)⟩)
        | (with_reducible refine AR.wr ?_)
        | ((with_reducible intro w3 e3); try have z3 := cutLe e3)
        | ((with_reducible intro h3); have h4 := Nat.le_of_lt h3; clear h4)))
      all_goals
        intro hx'
        rw [hf]
        exact ⟨_, rfl, hx', _, rfl, Own.nil _ _ _ _⟩
theorem ThankForS_c (a : Option Addr) (n c : Nat) (xs : List Gft) (id d : Int) (w : World) (hr : Row w a 5 (xs.map encGft)) (hn : xs.length = n) (hm : n ≤ 1048577) (hg : ∀ x ∈ xs, x.fGiver.size ≤ 9223372036854775807) :
    Calls Try.prog 15 #[.slice a n c, .int .i64 id, .int .i64 d] w fun e w' => ∃ r, e = .returned r ∧ E0 w w' ∧ ∃ s, r = .tuple #[s, .bool (thankP xs id d).2] ∧ Own w' w.heap.size 63 5 s ((thankP xs id d).1.map encGft) := by
  refine enterK Non 59 Try.func15 rfl rfl rfl fun K hK => ?_
  have hg2 : ∀ x ∈ xs.map (tkF id d), x.fGiver.size ≤ 9223372036854775807 := by
    intro y hy
    obtain ⟨x, hx, rfl⟩ := List.mem_map.1 hy
    unfold tkF
    split
    · exact hg x hx
    · exact hg x hx
  repeat (any_goals (
    conv => whnf
    first
    | ((with_reducible refine BIF.dec ?_ ?_) <;> intro _)
    | ((with_reducible refine BIF.s ?_ ?_) <;> intro _)
    | (with_reducible refine NEXTK.normal ?_)
    | (with_reducible refine NEXTK.ret ?_)
    | (with_reducible refine NEXTK.exit ?_)
    | (with_reducible refine SEQ.plain ?_)
    | (with_reducible refine hK _ _ ?_)
    | ((with_reducible refine RUNL.agg (fun _ => ?_) ?_); (focus kernel_rfl))
    | (with_reducible refine RUNL.run ?_)
    | ((with_reducible refine AR.ok ?_ ?_); exact ⟨by first | omega | (dsimp only; omega), by first | omega | (dsimp only; omega)⟩)
    | (with_reducible refine AR.wr ?_)
    | ((with_reducible intro w3 e3); try have z3 := cutLe e3)
    | ((with_reducible intro h3); have h4 := Nat.le_of_lt h3; clear h4)))
  conv => whnf
  refine bsS elemGft [] rfl rfl (by simp) (by omega) (fun w1 e1 o1 => ?_)
  have z1 := cutLe e1
  conv => whnf
  repeat (first | ((with_reducible refine NEXTK.normal ?_); conv => whnf) | ((with_reducible refine NEXTK.exit ?_); conv => whnf) | ((with_reducible refine NEXTK.ret ?_); conv => whnf) | ((with_reducible refine SEQ.plain ?_); conv => whnf) | ((with_reducible refine AR.ok ?_ ?_); exact ⟨by omega, by omega⟩; conv => whnf))
  refine apS (ns := xs.map encGft) elemGft o1 (by repeat (first | assumption | refine Row.e0 ?_ (by assumption))) (by simpa using hn) (by intro l hl; obtain ⟨x, -, rfl⟩ := List.mem_map.1 hl; rfl) ⟨by simp; omega, by simp; omega⟩ ⟨Nat.le_refl _, by omega⟩ trivial (fun v2 w2 x2 oO => ?_)
  have z2 := cutLe x2
  replace oO : Own w2 w.heap.size 63 5 v2 (xs.map encGft) := by simpa using oO
  obtain ⟨b2, d2, rfl, q2, p2⟩ := oO.rowx
  repeat (any_goals (
    conv => whnf
    first
    | ((with_reducible refine BIF.dec ?_ ?_) <;> intro _)
    | ((with_reducible refine BIF.s ?_ ?_) <;> intro _)
    | (with_reducible refine NEXTK.normal ?_)
    | (with_reducible refine NEXTK.ret ?_)
    | (with_reducible refine NEXTK.exit ?_)
    | (with_reducible refine SEQ.plain ?_)
    | (with_reducible refine hK _ _ ?_)
    | ((with_reducible refine RUNL.agg (fun _ => ?_) ?_); (focus kernel_rfl))
    | (with_reducible refine RUNL.run ?_)
    | ((with_reducible refine AR.ok ?_ ?_); exact ⟨by first | omega | (dsimp only; omega), by first | omega | (dsimp only; omega)⟩)
    | (with_reducible refine AR.wr ?_)
    | ((with_reducible intro w3 e3); try have z3 := cutLe e3)
    | ((with_reducible intro h3); have h4 := Nat.le_of_lt h3; clear h4)))
  conv => whnf
  refine LOOP.mk (Nat × Bool) (fun t => [(10, .v (.int .i64 t.1)), (9, match t.2 with | true => TV.tt | false => TV.ff)]) (fun t wr => t.1 ≤ xs.length ∧ w.heap.size ≤ wr.heap.size ∧ t.2 = (xs.take t.1).any (tkB id) ∧ Own wr w.heap.size 63 5 (.slice b2 xs.length d2) (((xs.take t.1).map (tkF id d) ++ xs.drop t.1).map encGft)) (fun t => xs.length - t.1) (0, false) rfl ⟨rfl, rfl, trivial⟩ ⟨Nat.zero_le _, by show w.heap.size ≤ w2.heap.size; omega, rfl, by simpa using oO⟩ ?_
  rintro ⟨j, fd⟩ wr - ⟨hj, hz, hfd, hown⟩
  simp only at hj hz hfd hown
  have oL := fun k h => hown.block (k := k) h
  rcases Nat.lt_or_ge j xs.length with hlt' | hge
  · have his := hown.row.1.isSome (by simp; omega)
    obtain ⟨x, hx⟩ : ∃ x, xs[j]? = some x := ⟨xs[j]'(by omega), by simp⟩
    obtain ⟨ls, hls⟩ : ∃ ls, ls = (xs.take j).map (tkF id d) ++ xs.drop j := ⟨_, rfl⟩
    have hget : ls[j]? = some x := by rw [hls]; exact mapget hx
    have hset := mapset (f := tkF id d) hx
    have hany : (xs.take (j + 1)).any (tkB id) = ((xs.take j).any (tkB id) || tkB id x) := by
      rw [List.take_add_one, hx, List.any_append]; simp
    rw [← hls] at hown hset
    by_cases hxg : x.fId = id ∧ x.fThanks = -1
    · have hxb : tkB id x = true := by simp [tkB, hxg]
      have hx1 := hxg.1
      have hx2 := hxg.2
      have hfx : tkF id d x = ⟨x.fId, x.fGiver, x.fSheets, x.fDay, d⟩ := by simp [tkF, hxb, setT]
      cases fd
      all_goals
        repeat (any_goals (
          conv => whnf
          first
          | ((with_reducible refine OBL.mk ?_ (fun _ => ?_)); exact ⟨by first | omega | (dsimp only; omega), by first | omega | (dsimp only; omega), his⟩)
          | ((with_reducible refine ELD.atNow (enc := encGft) (xs := ls) j hown.row.1 ?_ ?_ (fun x' hx' => ?_)); (first | rfl | omega); (have := (List.getElem?_eq_some_iff.1 hget).1; omega); obtain rfl : x = x' := by (rw [hget] at hx'; exact Option.some.inj hx'))
          | ((with_reducible intro w3 e3); have z3 := cutLe e3; replace hown := hown.ext e3 (by first | exact fun _ _ h => h | (intro k hk h; have hh := oL k hk; simp only [bk] at h; omega)))
          | ((with_reducible refine BIF.dec ?_ ?_) <;> intro hdq)
          | ((with_reducible refine BIF.beq ?_ ?_) <;> intro _)
          | ((exfalso; (first | omega | (dsimp only at hdq; omega))))
          | ((with_reducible refine BIF.dec ?_ ?_) <;> intro _)
          | ((with_reducible refine BIF.s ?_ ?_) <;> intro _)
          | (with_reducible refine NEXTK.normal ?_)
          | (with_reducible refine NEXTK.ret ?_)
          | (with_reducible refine NEXTK.exit ?_)
          | (with_reducible refine SEQ.plain ?_)
          | (with_reducible refine hK _ _ ?_)
          | ((with_reducible refine RUNL.agg (fun _ => ?_) ?_); (focus kernel_rfl))
          | (with_reducible refine RUNL.run ?_)
          | ((with_reducible refine AR.ok ?_ ?_); exact ⟨by first | omega | (dsimp only; omega), by first | omega | (dsimp only; omega)⟩)
          | (with_reducible refine AR.wr ?_)
          | ((with_reducible intro w3 e3); try have z3 := cutLe e3)
          | ((with_reducible intro h3); have h4 := Nat.le_of_lt h3; clear h4)))
        conv => whnf
        refine stS (i := _) hown rfl rfl rfl j rfl (by rw [List.getElem?_map, hget]; rfl) (by decide) (Nat.le_refl _) ⟨fun h => by have := (oL _ h).2; dsimp only at this; omega, trivial⟩ (fun w6 e6 o6 => ?_)
        have z6 := cutLe e6
        replace o6 : Own w6 w.heap.size 63 5 (.slice b2 xs.length d2) (((xs.take (j + 1)).map (tkF id d) ++ xs.drop (j + 1)).map encGft) := by rw [← hset, List.map_set, hfx]; exact o6
        repeat (any_goals (
          conv => whnf
          first
          | ((with_reducible refine BIF.dec ?_ ?_) <;> intro _)
          | ((with_reducible refine BIF.s ?_ ?_) <;> intro _)
          | (with_reducible refine NEXTK.normal ?_)
          | (with_reducible refine NEXTK.ret ?_)
          | (with_reducible refine NEXTK.exit ?_)
          | (with_reducible refine SEQ.plain ?_)
          | (with_reducible refine hK _ _ ?_)
          | ((with_reducible refine RUNL.agg (fun _ => ?_) ?_); (focus kernel_rfl))
          | (with_reducible refine RUNL.run ?_)
          | ((with_reducible refine AR.ok ?_ ?_); exact ⟨by first | omega | (dsimp only; omega), by first | omega | (dsimp only; omega)⟩)
          | (with_reducible refine AR.wr ?_)
          | ((with_reducible intro w3 e3); try have z3 := cutLe e3)
          | ((with_reducible intro h3); have h4 := Nat.le_of_lt h3; clear h4)))
        refine ⟨(j + 1, true), rfl, ⟨rfl, rfl, trivial⟩, rfl, rfl, ⟨by simp only; omega, ?_, by simp only; rw [hany, hxb, Bool.or_true], o6⟩, by simp only; omega⟩
        show w.heap.size ≤ w6.heap.size
        omega
    · have hxb : tkB id x = false := by
        cases h : tkB id x with
        | false => rfl
        | true =>
          simp only [tkB, Bool.and_eq_true, decide_eq_true_eq] at h
          exact absurd h hxg
      have hfx : tkF id d x = x := by simp [tkF, hxb]
      have hsame : ls = (xs.take (j + 1)).map (tkF id d) ++ xs.drop (j + 1) := by rw [hls]; exact mapkeep hx hfx
      cases fd
      all_goals
        repeat (any_goals (
          conv => whnf
          first
          | ((with_reducible refine OBL.mk ?_ (fun _ => ?_)); exact ⟨by first | omega | (dsimp only; omega), by first | omega | (dsimp only; omega), his⟩)
          | ((with_reducible refine ELD.atNow (enc := encGft) (xs := ls) j hown.row.1 ?_ ?_ (fun x' hx' => ?_)); (first | rfl | omega); (have := (List.getElem?_eq_some_iff.1 hget).1; omega); obtain rfl : x = x' := by (rw [hget] at hx'; exact Option.some.inj hx'))
          | ((with_reducible intro w3 e3); have z3 := cutLe e3; replace hown := hown.ext e3 (by first | exact fun _ _ h => h | (intro k hk h; have hh := oL k hk; simp only [bk] at h; omega)))
          | ((with_reducible refine BIF.dec ?_ ?_) <;> intro hdq)
          | ((with_reducible refine BIF.beq ?_ ?_) <;> intro _)
          | ((exfalso; exact hxg ⟨by assumption, by assumption⟩))
          | ((exfalso; dsimp only at hdq; omega))
          | ((with_reducible refine BIF.dec ?_ ?_) <;> intro _)
          | ((with_reducible refine BIF.s ?_ ?_) <;> intro _)
          | (with_reducible refine NEXTK.normal ?_)
          | (with_reducible refine NEXTK.ret ?_)
          | (with_reducible refine NEXTK.exit ?_)
          | (with_reducible refine SEQ.plain ?_)
          | (with_reducible refine hK _ _ ?_)
          | ((with_reducible refine RUNL.agg (fun _ => ?_) ?_); (focus kernel_rfl))
          | (with_reducible refine RUNL.run ?_)
          | ((with_reducible refine AR.ok ?_ ?_); exact ⟨by first | omega | (dsimp only; omega), by first | omega | (dsimp only; omega)⟩)
          | (with_reducible refine AR.wr ?_)
          | ((with_reducible intro w3 e3); try have z3 := cutLe e3)
          | ((with_reducible intro h3); have h4 := Nat.le_of_lt h3; clear h4)))
        all_goals
          conv => whnf
          refine stS (i := _) hown rfl rfl rfl j rfl (by rw [List.getElem?_map, hget]; rfl) (by decide) (Nat.le_refl _) ⟨fun h => by have := (oL _ h).2; dsimp only at this; omega, trivial⟩ (fun w6 e6 o6 => ?_)
          have z6 := cutLe e6
          replace o6 : Own w6 w.heap.size 63 5 (.slice b2 xs.length d2) (((xs.take (j + 1)).map (tkF id d) ++ xs.drop (j + 1)).map encGft) := by rw [← hset, List.map_set, hfx]; exact o6
          repeat (any_goals (
            conv => whnf
            first
            | ((with_reducible refine BIF.dec ?_ ?_) <;> intro _)
            | ((with_reducible refine BIF.s ?_ ?_) <;> intro _)
            | (with_reducible refine NEXTK.normal ?_)
            | (with_reducible refine NEXTK.ret ?_)
            | (with_reducible refine NEXTK.exit ?_)
            | (with_reducible refine SEQ.plain ?_)
            | (with_reducible refine hK _ _ ?_)
            | ((with_reducible refine RUNL.agg (fun _ => ?_) ?_); (focus kernel_rfl))
            | (with_reducible refine RUNL.run ?_)
            | ((with_reducible refine AR.ok ?_ ?_); exact ⟨by first | omega | (dsimp only; omega), by first | omega | (dsimp only; omega)⟩)
            | (with_reducible refine AR.wr ?_)
            | ((with_reducible intro w3 e3); try have z3 := cutLe e3)
            | ((with_reducible intro h3); have h4 := Nat.le_of_lt h3; clear h4)))
          first
          | refine ⟨(j + 1, false), rfl, ⟨rfl, rfl, trivial⟩, rfl, rfl, ⟨by simp only; omega, ?_, by simp only; rw [hany, hxb, Bool.or_false]; exact hfd, o6⟩, by simp only; omega⟩
          | refine ⟨(j + 1, true), rfl, ⟨rfl, rfl, trivial⟩, rfl, rfl, ⟨by simp only; omega, ?_, by simp only; rw [hany, hxb, Bool.or_false]; exact hfd, o6⟩, by simp only; omega⟩
          show w.heap.size ≤ w6.heap.size
          omega
  · have hkj : j = xs.length := by omega
    rw [hkj, mapend] at hown
    rw [hkj, List.take_length] at hfd
    cases hfb : fd
    all_goals
      subst hfb
      repeat (any_goals (
        conv => whnf
        first
        | ((with_reducible refine BIF.dec ?_ ?_) <;> intro hdq)
        | ((exfalso; dsimp only at hdq; omega))
        | ((with_reducible refine callX (g := 40) ?_ ?_); kernel_rfl; intro hX; refine ⟨_, l26Good_c _ _ _ xs _ (hr.ext hX (mAddr_Non _)) hn (by omega) hg, ?_⟩; intro w4 e4; have z4 := cutLe e4; replace hown := hown.e0 e4)
        | ((with_reducible refine callF (g := 40) ?_ ?_); kernel_rfl; refine ⟨_, l26Good_c _ _ _ (xs.map (tkF id d)) _ hown.row.1 (by simp) (by omega) hg2, ?_⟩; intro w4 e4; have z4 := cutLe e4; replace hown := hown.e0 e4)
        | ((with_reducible refine callF (g := 48) ?_ ?_); kernel_rfl; refine ⟨_, l2Day_c _ _, ?_⟩; intro w4 e4; have z4 := cutLe e4; replace hown := hown.e0 e4)
        | ((with_reducible refine bsS elemGft [] rfl rfl (by simp) (by omega) (fun w9 e9 o9 => ?_)); have z9 := cutLe e9)
        | ((with_reducible refine BIF.dec ?_ ?_) <;> intro _)
        | ((with_reducible refine BIF.s ?_ ?_) <;> intro _)
        | (with_reducible refine NEXTK.normal ?_)
        | (with_reducible refine NEXTK.ret ?_)
        | (with_reducible refine NEXTK.exit ?_)
        | (with_reducible refine SEQ.plain ?_)
        | (with_reducible refine hK _ _ ?_)
        | ((with_reducible refine RUNL.agg (fun _ => ?_) ?_); (focus kernel_rfl))
        | (with_reducible refine RUNL.run ?_)
        | ((with_reducible refine AR.ok ?_ ?_); exact ⟨by first | omega | (dsimp only; omega), by first | omega | (dsimp only; omega)⟩)
        | (with_reducible refine AR.wr ?_)
        | ((with_reducible intro w3 e3); try have z3 := cutLe e3)
        | ((with_reducible intro h3); have h4 := Nat.le_of_lt h3; clear h4)))
      all_goals
        intro hx'
        first
        | (have hf : thankP xs id d = ([], false) := by unfold thankP; rw [if_neg (by clear hK; simp_all)]
           rw [hf]
           exact ⟨_, rfl, hx', _, rfl, o9.lo (by omega)⟩)
        | (have hf : thankP xs id d = (xs.map (tkF id d), true) := by unfold thankP; rw [if_pos (by clear hK; simp_all)]
           rw [hf]
           exact ⟨_, rfl, hx', _, rfl, by simpa using hown⟩)

end Go.Proofs.Ytohnoccmaeegdaa

/- Numbers put to their place. -/
import Derived.Test.YtpddilkonkkppaaGreatDoorRows
import Derived.Test.YtpddilkonkkppaaGreatDoorMerged
namespace Go.Proofs.YtpddilkonkkppaaGreatDoor
open Go Go.X Go.Proofs Go.ChangeShapes Go.WideShapes Go.ChangeAt Go.RowKit
open Go.ChangeMaps (open_string shut_string)
set_option maxHeartbeats 1000000
set_option maxRecDepth 20000
set_option linter.unusedVariables false
set_option linter.unusedSimpArgs false
def putL (l : List Int) (n : Int) : List Int := if n ∈ l then l else l.filter (fun x => decide (x < n)) ++ n :: l.filter (fun x => decide (n < x))
def Up (l : List Int) : Prop := l.Pairwise (· < ·)
theorem putL_mem (l : List Int) (n y : Int) : y ∈ putL l n ↔ y = n ∨ y ∈ l := by
  unfold putL
  split
  · rename_i h
    constructor
    · exact .inr
    · rintro (rfl | h')
      · exact h
      · exact h'
  · simp only [List.mem_append, List.mem_cons, List.mem_filter, decide_eq_true_eq]
    constructor
    · rintro (h1 | h1 | h1)
      · exact .inr h1.1
      · exact .inl h1
      · exact .inr h1.1
    · rintro (rfl | h1)
      · exact .inr (.inl rfl)
      · rcases Int.lt_trichotomy y n with h2 | h2 | h2
        · exact .inl ⟨h1, h2⟩
        · exact .inr (.inl h2)
        · exact .inr (.inr ⟨h1, h2⟩)
theorem putL_up {l : List Int} (n : Int) (h : Up l) : Up (putL l n) := by
  unfold putL
  split
  · exact h
  · unfold Up at *
    rw [List.pairwise_append]
    refine ⟨h.filter _, ?_, ?_⟩
    · rw [List.pairwise_cons]
      exact ⟨fun y hy => by simpa using (List.mem_filter.1 hy).2, h.filter _⟩
    · intro x hx y hy
      have h1 : x < n := by simpa using (List.mem_filter.1 hx).2
      rcases List.mem_cons.1 hy with rfl | hy
      · exact h1
      · have h2 : n < y := by simpa using (List.mem_filter.1 hy).2
        omega
theorem filt_len (l : List Int) (n : Int) : (l.filter (fun x => decide (x < n))).length + (l.filter (fun x => decide (n < x))).length ≤ l.length := by
  induction l with
  | nil => simp
  | cons x t ih =>
    rw [List.filter_cons, List.filter_cons]
    rcases Int.lt_trichotomy x n with h | h | h
    · rw [if_pos (by simpa using h), if_neg (by simp; omega)]; simp only [List.length_cons]; omega
    · rw [if_neg (by simp; omega), if_neg (by simp; omega)]; simp only [List.length_cons]; omega
    · rw [if_neg (by simp; omega), if_pos (by simpa using h)]; simp only [List.length_cons]; omega
theorem putL_len (l : List Int) (n : Int) : (putL l n).length ≤ l.length + 1 := by
  unfold putL
  split
  · omega
  · have := filt_len l n
    rw [List.length_append, List.length_cons]; omega
theorem up_eq : ∀ {s t : List Int}, Up s → Up t → (∀ y, y ∈ s ↔ y ∈ t) → s = t
  | [], [], _, _, _ => rfl
  | [], y :: t, _, _, h => by have := (h y).2 (by simp); simp at this
  | x :: s, [], _, _, h => by have := (h x).1 (by simp); simp at this
  | x :: s, y :: t, hs, ht, h => by
    unfold Up at hs ht
    rw [List.pairwise_cons] at hs ht
    have hxy : x = y := by
      have h1 := (h x).1 (by simp)
      have h2 := (h y).2 (by simp)
      rcases List.mem_cons.1 h1 with h1 | h1
      · exact h1
      · rcases List.mem_cons.1 h2 with h2 | h2
        · exact h2.symm
        · have := hs.1 y h2
          have := ht.1 x h1
          omega
    subst hxy
    congr 1
    refine up_eq hs.2 ht.2 (fun z => ⟨fun hz => ?_, fun hz => ?_⟩)
    · have h1 := (h z).1 (by simp [hz])
      rcases List.mem_cons.1 h1 with rfl | h1
      · have := hs.1 z hz; omega
      · exact h1
    · have h1 := (h z).2 (by simp [hz])
      rcases List.mem_cons.1 h1 with rfl | h1
      · have := ht.1 z hz; omega
      · exact h1
theorem sortI_mem (xs : List Int) (y : Int) : y ∈ sortI xs ↔ y ∈ xs := by
  unfold sortI
  exact (List.mergeSort_perm xs _).mem_iff
theorem sortI_up {xs : List Int} (h : xs.Nodup) : Up (sortI xs) := by
  have h1 : (sortI xs).Pairwise (fun a b => decide (a ≤ b) = true) := List.pairwise_mergeSort (by simp; omega) (by simp; omega) xs
  have h2 : (sortI xs).Nodup := (List.mergeSort_perm xs _).nodup_iff.2 h
  unfold Up
  have h3 := List.Pairwise.and h1 h2
  exact h3.imp fun {a b} ⟨x, y⟩ => by
    have x := of_decide_eq_true x
    have : a ≠ b := y
    omega
def seenF (a b : List Int) (m : Int) (k : Nat) : List Int := (b.take k).foldl putL (putL a m)
theorem seenF_succ {a b : List Int} {m : Int} {k : Nat} {s : Int} (h : b[k]? = some s) : seenF a b m (k + 1) = putL (seenF a b m k) s := by
  unfold seenF
  rw [List.take_add_one, h, List.foldl_append]; rfl
theorem seenF_all (a b : List Int) (m : Int) (ha : Up a) : ∀ k, k ≤ b.length → Up (seenF a b m k) ∧ (∀ y, y ∈ seenF a b m k ↔ y = m ∨ y ∈ a ∨ y ∈ b.take k) ∧ (seenF a b m k).length ≤ a.length + 1 + k
  | 0, _ => ⟨putL_up m ha, fun y => by simp [seenF, putL_mem], by simpa [seenF] using putL_len a m⟩
  | k + 1, hk => by
    obtain ⟨h1, h2, h3⟩ := seenF_all a b m ha k (by omega)
    have hs : b[k]? = some b[k] := List.getElem?_eq_getElem (by omega)
    rw [seenF_succ hs]
    refine ⟨putL_up _ h1, fun y => ?_, ?_⟩
    · rw [putL_mem, h2 y, List.take_add_one, hs, List.mem_append]
      simp only [Option.toList_some, List.mem_singleton]
      constructor
      · rintro (h | h | h | h)
        · exact .inr (.inr (.inr h))
        · exact .inl h
        · exact .inr (.inl h)
        · exact .inr (.inr (.inl h))
      · rintro (h | h | h | h)
        · exact .inr (.inl h)
        · exact .inr (.inr (.inl h))
        · exact .inr (.inr (.inr h))
        · exact .inl h
    · have := putL_len (seenF a b m k) b[k]
      omega
theorem seenF_sort {a b : List Int} {m : Int} (ha : Up a) (hn : (a ++ b ++ [m]).Nodup) : seenF a b m b.length = sortI (a ++ b ++ [m]) := by
  obtain ⟨h1, h2, -⟩ := seenF_all a b m ha b.length (Nat.le_refl _)
  refine up_eq h1 (sortI_up hn) (fun y => ?_)
  rw [h2, sortI_mem, List.take_length]
  simp only [List.mem_append, List.mem_singleton]
  constructor
  · rintro (h | h | h)
    · exact .inr h
    · exact .inl (.inl h)
    · exact .inl (.inr h)
  · rintro ((h | h) | h)
    · exact .inr (.inl h)
    · exact .inr (.inr h)
    · exact .inl h
theorem up_nodup {l : List Int} (h : Up l) : l.Nodup := List.Pairwise.imp (fun {a b} (h : a < b) => by omega) h
theorem up_lt {l : List Int} (h : Up l) {i j : Nat} {x y : Int} (hij : i < j) (hx : l[i]? = some x) (hy : l[j]? = some y) : x < y := by
  obtain ⟨h1, rfl⟩ := List.getElem?_eq_some_iff.1 hx
  obtain ⟨h2, rfl⟩ := List.getElem?_eq_some_iff.1 hy
  exact List.pairwise_iff_getElem.1 h i j h1 h2 hij
theorem putL_same {l : List Int} {n : Int} {k : Nat} (h : l[k]? = some n) : putL l n = l := by
  unfold putL
  rw [if_pos (List.mem_of_getElem? h)]
theorem putL_at {l : List Int} {n : Int} {k : Nat} (h : Up l) (hk : k ≤ l.length) (hlo : ∀ j y, j < k → l[j]? = some y → y < n) (hhi : ∀ y, l[k]? = some y → ¬ y < n) (hne : ∀ y, l[k]? = some y → ¬ y = n) : putL l n = l.take k ++ n :: l.drop k := by
  have hup : ∀ y, y ∈ l.drop k → n < y := by
    intro y hy
    obtain ⟨i, hi⟩ := List.mem_iff_getElem?.1 hy
    rw [List.getElem?_drop] at hi
    have hl := (List.getElem?_eq_some_iff.1 hi).1
    have hz : l[k]? = some l[k] := List.getElem?_eq_getElem (by omega)
    have h1 := hhi _ hz
    have h2 := hne _ hz
    rcases Nat.eq_zero_or_pos i with h0 | h0
    · subst h0
      rw [Nat.add_zero, hz] at hi
      cases hi
      omega
    · have := up_lt h (by omega : k < k + i) hz hi
      omega
  have hdn : ∀ y, y ∈ l.take k → y < n := by
    intro y hy
    obtain ⟨i, hi⟩ := List.mem_iff_getElem?.1 hy
    rw [List.getElem?_take] at hi
    split at hi
    · rename_i hik
      exact hlo i y hik hi
    · cases hi
  have hnot : n ∉ l := by
    rw [← List.take_append_drop k l, List.mem_append]
    rintro (h | h)
    · have := hdn n h; omega
    · have := hup n h; omega
  unfold putL
  rw [if_neg hnot]
  have e1 : l.filter (fun x => decide (x < n)) = l.take k := by
    conv => lhs; rw [← List.take_append_drop k l]
    rw [List.filter_append, List.filter_eq_self.2 (fun x hx => by simpa using hdn x hx), List.filter_eq_nil_iff.2 (fun x hx => by have := hup x hx; simp; omega), List.append_nil]
  have e2 : l.filter (fun x => decide (n < x)) = l.drop k := by
    conv => lhs; rw [← List.take_append_drop k l]
    rw [List.filter_append, List.filter_eq_nil_iff.2 (fun x hx => by have := hdn x hx; simp; omega), List.filter_eq_self.2 (fun x hx => by simpa using hup x hx), List.nil_append]
  rw [e1, e2]
theorem rowPreI {w : World} {p : Option Addr} {L : List Int} {k e : Nat} (h : Row w p 1 (L.map encI)) (hk : (k : Int) ≤ e) : Row w (if (e : Int).toNat = Int.toNat 0 then p else p.map (·.add (Int.toNat 0 * 1))) 1 ((L.take k).map encI) := by
  have := h.sub 0 (k : Int) (e : Int) hk
  simpa using this
theorem rowSufI {w : World} {p : Option Addr} {L : List Int} {k e : Nat} (h : Row w p 1 (L.map encI)) (hk : (L.length : Int) ≤ e) : Row w (if (e : Int).toNat = (k : Int).toNat then p else p.map (·.add ((k : Int).toNat * 1))) 1 ((L.drop k).map encI) := by
  have := h.sub (k : Int) (L.length : Int) (e : Int) hk
  simp only [Int.toNat_natCast] at this ⊢
  rw [List.take_of_length_le (by simp)] at this
  exact this
theorem l1Put_c (lo : Nat) (a : Option Addr) (n c : Nat) (L : List Int) (v : Int) (w : World) (hown : Own w lo 3 1 (.slice a n c) (L.map encI)) (hn : L.length = n) (hm : n ≤ 1000000) (hlo : lo ≤ w.heap.size) (hu : Up L) :
    Calls Tryz.prog 64 #[.slice a n c, .int .i64 v] w fun e w' => ∃ r, e = .returned r ∧ E0 w w' ∧ Own w' lo 3 1 r ((putL L v).map encI) := by
  refine enterK Non 45 Tryz.func64 rfl rfl rfl fun K hK => ?_
  have hr := hown.row.1
  have hcap : L.length ≤ c ∧ c < 9223372036854775808 := by
    obtain ⟨ax, cx, he, -, hcap⟩ := hown.rowx
    simp only [Value.slice.injEq] at he
    obtain ⟨-, -, rfl⟩ := he
    exact hcap
  repeat (any_goals (
    conv => whnf
    first
    | ((with_reducible refine BIF.dec ?_ ?_) <;> intro _)
    | ((with_reducible refine BIF.s ?_ ?_) <;> intro _)
    | (with_reducible refine NEXTK.normal ?_)
    | (with_reducible refine NEXTK.ret ?_)
    | (with_reducible refine NEXTK.exit ?_)
    | (with_reducible refine SEQ.plain ?_)
    | (with_reducible refine hK _ _ ?_)
    | ((with_reducible refine RUNL.agg (fun _ => ?_) ?_); (focus kernel_rfl))
    | (with_reducible refine RUNL.run ?_)
    | ((with_reducible refine AR.ok ?_ ?_); exact ⟨by first | omega | (dsimp only; omega), by first | omega | (dsimp only; omega)⟩)
    | (with_reducible refine AR.wr ?_)
    | ((with_reducible intro w3 e3); try have z3 := cutLe e3)
    | ((with_reducible intro h3); have h4 := Nat.le_of_lt h3; clear h4)))
  conv => whnf
  refine LOOP.mk Nat (fun k => [(5, .v (.int .i64 k))]) (fun k wr => k ≤ n ∧ ∀ j y, j < k → L[j]? = some y → y < v) (fun k => n - k) 0 rfl ⟨rfl, trivial⟩ ⟨Nat.zero_le _, fun j y hj => by omega⟩ ?_
  rintro k wr hX0 ⟨hk, hall⟩
  have hlw : w.heap.size ≤ wr.heap.size := cutLe hX0
  by_cases hkn : k < n
  · have his := hr.isSome (by simp; omega)
    have hlt' : k < L.length := by omega
    obtain ⟨x, hx⟩ : ∃ x, L[k]? = some x := ⟨L[k], by simp⟩
    repeat (any_goals (
      conv => whnf
      first
      | ((with_reducible refine BIF.dec (fun (h : (k : Int) < n) => ?_) (fun h => absurd (by omega) h)))
      | ((with_reducible refine OBL.mk ?_ (fun _ => ?_)); exact ⟨by first | omega | (dsimp only; omega), by first | omega | (dsimp only; omega), his⟩)
      | ((with_reducible refine ELD.at (k) hr ?_ ?_ ?_ (fun x' hx' => ?_)); exact mAddr_Non _; (first | rfl | omega); exact hlt'; obtain rfl : x = x' := by (rw [hx] at hx'; exact Option.some.inj hx'))
      | ((with_reducible refine BIF.dec (fun (hxv : x < v) => ?_) (fun hxv => ?_)))
      | ((with_reducible refine BIF.beq (fun (hxe : x = v) => ?_) (fun hxe => ?_)))
      | ((with_reducible refine BIF.dec ?_ ?_) <;> intro _)
      | ((with_reducible refine BIF.s ?_ ?_) <;> intro _)
      | (with_reducible refine NEXTK.normal ?_)
      | (with_reducible refine NEXTK.ret ?_)
      | (with_reducible refine NEXTK.exit ?_)
      | (with_reducible refine SEQ.plain ?_)
      | (with_reducible refine hK _ _ ?_)
      | ((with_reducible refine RUNL.agg (fun _ => ?_) ?_); (focus kernel_rfl))
      | (with_reducible refine RUNL.run ?_)
      | ((with_reducible refine AR.ok ?_ ?_); exact ⟨by first | omega | (dsimp only; omega), by first | omega | (dsimp only; omega)⟩)
      | (with_reducible refine AR.wr ?_)
      | ((with_reducible intro w3 e3); try have z3 := cutLe e3)
      | ((with_reducible intro h3); have h4 := Nat.le_of_lt h3; clear h4)))
    · refine ⟨k + 1, rfl, ⟨rfl, trivial⟩, rfl, rfl, ⟨by omega, fun j y hj hy => ?_⟩, by omega⟩
      rcases Nat.lt_or_ge j k with h | h
      · exact hall j y h hy
      · obtain rfl : j = k := by omega
        rw [hx] at hy; cases hy; exact hxv
    · intro hx'
      rw [putL_same (hxe ▸ hx)]
      exact ⟨_, rfl, hx', hown.ext hX0 (fun _ _ h => h)⟩
    · have hput : putL L v = L.take k ++ v :: L.drop k := putL_at hu (by omega) hall (fun y hy => by rw [hx] at hy; cases hy; exact hxv) (fun y hy => by rw [hx] at hy; cases hy; exact hxe)
      repeat (any_goals (
        conv => whnf
        first
        | ((with_reducible intro w7 e7); have z7 := cutLe e7)
        | ((with_reducible refine DRAW.plan (id := 6) (.one 1 (.one 2 (.one 3 (.one 5 (.one 8 (.one 9 (.one 10 (.start (.alt 0 (.start (.alt 4 (.start (.alt 6 (.start (.alt 7 (.start (.alt 11 (.one 12 .done) .stop)) .stop)) .stop)) (.alt 6 (.start (.alt 4 (.start (.alt 7 (.start (.alt 11 (.one 12 .done) .stop)) .stop)) .stop)) .stop))) (.alt 6 (.start (.alt 0 (.start (.alt 4 (.start (.alt 7 (.start (.alt 11 (.one 12 .done) .stop)) .stop)) .stop)) .stop)) .stop)))))))))) ?_ ?_ ?_ ?_); kernel_rfl; kernel_rfl; kernel_rfl)
        | (with_reducible refine And.intro ?_ ?_)
        | (exact True.intro)
        | ((with_reducible refine OBL.mk ?_ (fun _ => ?_)); omega)
        | ((with_reducible refine bsS elemI [] rfl rfl (by simp) (by omega) (fun w9 e9 oC => ?_)); have z9 := cutLe e9; (try have apBC := oB.apart oC); (try replace oB := oB.e0 e9))
        | ((with_reducible refine bsS elemI [.int .i64 v] ?_ ?_ ?_ ?_ ?_); (focus rfl); (focus rfl); (focus (intro v hv; simp at hv; subst hv; rfl)); (focus omega); intro w9 e9 oB; have z9 := cutLe e9; (try have apCB := oC.apart oB); (try replace oC := oC.e0 e9); (try replace o2 := o2.e0 e9))
        | ((with_reducible refine WOP.x (fun hX => ?_)); (with_reducible refine apS (ns := (L.take k).map encI) elemI oC ?_ ?_ ?_ ?_ ?_ ?_ (fun v2 w2 x2 o2 => ?_)); (focus exact rowPreI (hr.ext hX (mAddr_Non _)) (by omega)); (focus (simp; omega)); (focus exact (by intro l hl; obtain ⟨x, -, rfl⟩ := List.mem_map.1 hl; rfl)); (focus exact ⟨by simp; omega, by simp; omega⟩); (focus exact ⟨(by show w.heap.size ≤ _; omega), by omega⟩); (focus exact trivial); clear hX; have z2 := cutLe x2; (try replace oB := oB.past x2 (by first | exact apBC | exact ne_symm' apCB)); clear oC; replace o2 : Own w2 w.heap.size 3 1 v2 ((L.take k).map encI) := (by simpa using o2.lo (by omega)); obtain ⟨b2, d2, rfl, q2, p2⟩ := o2.rowx)
        | ((with_reducible refine apS (ns := [encI v]) elemI o2 ?_ ?_ ?_ ?_ ?_ ?_ (fun v5 w5 x5 o5 => ?_)); (focus exact oB.row.1); (focus rfl); (focus (intro l hl; simp at hl; subst hl; rfl)); (focus exact ⟨by simp; omega, by simp; omega⟩); (focus exact ⟨(by show w.heap.size ≤ _; omega), by omega⟩); (focus exact trivial); have z5 := cutLe x5; clear o2; replace o5 : Own w5 w.heap.size 3 1 v5 ((L.take k ++ [v]).map encI) := (by simpa using o5); obtain ⟨b5, d5, rfl, q5, p5⟩ := o5.rowx)
        | ((with_reducible refine WOP.x (fun hX => ?_)); (with_reducible refine apS (ns := (L.drop k).map encI) elemI o5 ?_ ?_ ?_ ?_ ?_ ?_ (fun v6 w6 x6 o6 => ?_)); (focus exact rowSufI (hr.ext hX (mAddr_Non _)) (by omega)); (focus (first | (simp; done) | (simp; omega))); (focus exact (by intro l hl; obtain ⟨x, -, rfl⟩ := List.mem_map.1 hl; rfl)); (focus exact ⟨by simp; omega, by simp; omega⟩); (focus exact ⟨(by show w.heap.size ≤ _; omega), by omega⟩); (focus exact trivial); clear hX; have z6 := cutLe x6; clear o5; replace o6 : Own w6 w.heap.size 3 1 v6 ((putL L v).map encI) := (by rw [hput]; simpa using o6); obtain ⟨b6, d6, rfl, q6, p6⟩ := o6.rowx)
        | ((with_reducible refine BIF.dec ?_ ?_) <;> intro _)
        | ((with_reducible refine BIF.s ?_ ?_) <;> intro _)
        | (with_reducible refine NEXTK.normal ?_)
        | (with_reducible refine NEXTK.ret ?_)
        | (with_reducible refine NEXTK.exit ?_)
        | (with_reducible refine SEQ.plain ?_)
        | (with_reducible refine hK _ _ ?_)
        | ((with_reducible refine RUNL.agg (fun _ => ?_) ?_); (focus kernel_rfl))
        | (with_reducible refine RUNL.run ?_)
        | ((with_reducible refine AR.ok ?_ ?_); exact ⟨by first | omega | (dsimp only; omega), by first | omega | (dsimp only; omega)⟩)
        | (with_reducible refine AR.wr ?_)
        | ((with_reducible intro w3 e3); try have z3 := cutLe e3)
        | ((with_reducible intro h3); have h4 := Nat.le_of_lt h3; clear h4)))
      all_goals
        intro hx'
        exact ⟨_, rfl, hx', o6.lo hlo⟩
  · have hkl : k = L.length := by omega
    have hno : ∀ y, L[k]? = some y → False := fun y hy => by have := (List.getElem?_eq_some_iff.1 hy).1; omega
    repeat (any_goals (
      conv => whnf
      first
      | ((with_reducible refine BIF.dec (fun (h : (k : Int) < n) => absurd h (by omega)) (fun h => ?_)))
      | ((with_reducible refine BIF.dec ?_ ?_) <;> intro _)
      | ((with_reducible refine BIF.s ?_ ?_) <;> intro _)
      | (with_reducible refine NEXTK.normal ?_)
      | (with_reducible refine NEXTK.ret ?_)
      | (with_reducible refine NEXTK.exit ?_)
      | (with_reducible refine SEQ.plain ?_)
      | (with_reducible refine hK _ _ ?_)
      | ((with_reducible refine RUNL.agg (fun _ => ?_) ?_); (focus kernel_rfl))
      | (with_reducible refine RUNL.run ?_)
      | ((with_reducible refine AR.ok ?_ ?_); exact ⟨by first | omega | (dsimp only; omega), by first | omega | (dsimp only; omega)⟩)
      | (with_reducible refine AR.wr ?_)
      | ((with_reducible intro w3 e3); try have z3 := cutLe e3)
      | ((with_reducible intro h3); have h4 := Nat.le_of_lt h3; clear h4)))
    have hput : putL L v = L.take k ++ v :: L.drop k := putL_at hu (by omega) hall (fun y hy => (hno y hy).elim) (fun y hy => (hno y hy).elim)
    repeat (any_goals (
      conv => whnf
      first
      | ((with_reducible intro w7 e7); have z7 := cutLe e7)
      | ((with_reducible refine DRAW.plan (id := 6) (.one 1 (.one 2 (.one 3 (.one 5 (.one 8 (.one 9 (.one 10 (.start (.alt 0 (.start (.alt 4 (.start (.alt 6 (.start (.alt 7 (.start (.alt 11 (.one 12 .done) .stop)) .stop)) .stop)) (.alt 6 (.start (.alt 4 (.start (.alt 7 (.start (.alt 11 (.one 12 .done) .stop)) .stop)) .stop)) .stop))) (.alt 6 (.start (.alt 0 (.start (.alt 4 (.start (.alt 7 (.start (.alt 11 (.one 12 .done) .stop)) .stop)) .stop)) .stop)) .stop)))))))))) ?_ ?_ ?_ ?_); kernel_rfl; kernel_rfl; kernel_rfl)
      | (with_reducible refine And.intro ?_ ?_)
      | (exact True.intro)
      | ((with_reducible refine OBL.mk ?_ (fun _ => ?_)); omega)
      | ((with_reducible refine bsS elemI [] rfl rfl (by simp) (by omega) (fun w9 e9 oC => ?_)); have z9 := cutLe e9; (try have apBC := oB.apart oC); (try replace oB := oB.e0 e9))
      | ((with_reducible refine bsS elemI [.int .i64 v] ?_ ?_ ?_ ?_ ?_); (focus rfl); (focus rfl); (focus (intro v hv; simp at hv; subst hv; rfl)); (focus omega); intro w9 e9 oB; have z9 := cutLe e9; (try have apCB := oC.apart oB); (try replace oC := oC.e0 e9); (try replace o2 := o2.e0 e9))
      | ((with_reducible refine WOP.x (fun hX => ?_)); (with_reducible refine apS (ns := (L.take k).map encI) elemI oC ?_ ?_ ?_ ?_ ?_ ?_ (fun v2 w2 x2 o2 => ?_)); (focus exact rowPreI (hr.ext hX (mAddr_Non _)) (by omega)); (focus (simp; omega)); (focus exact (by intro l hl; obtain ⟨x, -, rfl⟩ := List.mem_map.1 hl; rfl)); (focus exact ⟨by simp; omega, by simp; omega⟩); (focus exact ⟨(by show w.heap.size ≤ _; omega), by omega⟩); (focus exact trivial); clear hX; have z2 := cutLe x2; (try replace oB := oB.past x2 (by first | exact apBC | exact ne_symm' apCB)); clear oC; replace o2 : Own w2 w.heap.size 3 1 v2 ((L.take k).map encI) := (by simpa using o2.lo (by omega)); obtain ⟨b2, d2, rfl, q2, p2⟩ := o2.rowx)
      | ((with_reducible refine apS (ns := [encI v]) elemI o2 ?_ ?_ ?_ ?_ ?_ ?_ (fun v5 w5 x5 o5 => ?_)); (focus exact oB.row.1); (focus rfl); (focus (intro l hl; simp at hl; subst hl; rfl)); (focus exact ⟨by simp; omega, by simp; omega⟩); (focus exact ⟨(by show w.heap.size ≤ _; omega), by omega⟩); (focus exact trivial); have z5 := cutLe x5; clear o2; replace o5 : Own w5 w.heap.size 3 1 v5 ((L.take k ++ [v]).map encI) := (by simpa using o5); obtain ⟨b5, d5, rfl, q5, p5⟩ := o5.rowx)
      | ((with_reducible refine WOP.x (fun hX => ?_)); (with_reducible refine apS (ns := (L.drop k).map encI) elemI o5 ?_ ?_ ?_ ?_ ?_ ?_ (fun v6 w6 x6 o6 => ?_)); (focus exact rowSufI (hr.ext hX (mAddr_Non _)) (by omega)); (focus (first | (simp; done) | (simp; omega))); (focus exact (by intro l hl; obtain ⟨x, -, rfl⟩ := List.mem_map.1 hl; rfl)); (focus exact ⟨by simp; omega, by simp; omega⟩); (focus exact ⟨(by show w.heap.size ≤ _; omega), by omega⟩); (focus exact trivial); clear hX; have z6 := cutLe x6; clear o5; replace o6 : Own w6 w.heap.size 3 1 v6 ((putL L v).map encI) := (by rw [hput]; simpa using o6); obtain ⟨b6, d6, rfl, q6, p6⟩ := o6.rowx)
      | ((with_reducible refine BIF.dec ?_ ?_) <;> intro _)
      | ((with_reducible refine BIF.s ?_ ?_) <;> intro _)
      | (with_reducible refine NEXTK.normal ?_)
      | (with_reducible refine NEXTK.ret ?_)
      | (with_reducible refine NEXTK.exit ?_)
      | (with_reducible refine SEQ.plain ?_)
      | (with_reducible refine hK _ _ ?_)
      | ((with_reducible refine RUNL.agg (fun _ => ?_) ?_); (focus kernel_rfl))
      | (with_reducible refine RUNL.run ?_)
      | ((with_reducible refine AR.ok ?_ ?_); exact ⟨by first | omega | (dsimp only; omega), by first | omega | (dsimp only; omega)⟩)
      | (with_reducible refine AR.wr ?_)
      | ((with_reducible intro w3 e3); try have z3 := cutLe e3)
      | ((with_reducible intro h3); have h4 := Nat.le_of_lt h3; clear h4)))
    all_goals
      intro hx'
      exact ⟨_, rfl, hx', o6.lo hlo⟩

end Go.Proofs.YtpddilkonkkppaaGreatDoor

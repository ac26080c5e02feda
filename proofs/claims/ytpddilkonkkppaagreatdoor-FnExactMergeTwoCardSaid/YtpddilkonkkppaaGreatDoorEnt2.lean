/- Entries measured, marked and looked at again. -/
import Derived.Test.YtpddilkonkkppaaGreatDoorRows
import Derived.Test.YtpddilkonkkppaaGreatDoorEnt
namespace Go.Proofs.YtpddilkonkkppaaGreatDoor
open Go Go.X Go.Proofs Go.ChangeShapes Go.WideShapes Go.ChangeAt Go.RowKit
open Go.ChangeMaps (open_string shut_string)
set_option maxHeartbeats 1000000
set_option maxRecDepth 20000
set_option linter.unusedVariables false
set_option linter.unusedSimpArgs false
def lens (ts : List Tri) : Nat := (ts.map (·.1.fSeen.length)).sum
theorem lens_take {ts : List Tri} {k : Nat} {t : Tri} (h : ts[k]? = some t) : lens (ts.take (k + 1)) = lens (ts.take k) + t.1.fSeen.length := by
  unfold lens
  rw [List.take_add_one, h]; simp
theorem lens_mem : ∀ {ts : List Tri} {t : Tri}, t ∈ ts → t.1.fSeen.length ≤ lens ts
  | u :: ts, t, h => by
    unfold lens
    rw [List.map_cons, List.sum_cons]
    rcases List.mem_cons.1 h with rfl | h
    · omega
    · have := lens_mem h
      unfold lens at this
      omega
theorem lens_pre (ts : List Tri) (k : Nat) : lens (ts.take k) ≤ lens ts := by
  unfold lens
  conv => rhs; rw [← List.take_append_drop k ts]
  rw [List.map_append, List.sum_append]; omega
theorem szEntry_c (t : Tri) (l : Int) (w : World) (hl : 0 ≤ l ∧ l ≤ 1048576) (h1 : t.1.fTitle.size ≤ 9223372036854775807) (h2 : t.1.fPlace.size ≤ 9223372036854775807) (h3 : t.1.fSeen.length ≤ 9223372036854775807) :
    Calls Tryz.prog 31 #[.agg (encT t).toArray, .int .i64 l] w fun e w' => ∃ r, e = .returned r ∧ E0 w w' ∧ ∃ v : Int, r = .int .i64 v ∧ (v = -1 ∨ 0 ≤ v ∧ v + t.1.fSeen.length ≤ l) := by
  refine enterK Non 26 Tryz.func31 rfl rfl rfl fun K hK => ?_
  by_cases hq : (t.1.fSeen.length : Int) ≤ l - t.1.fTitle.size - t.1.fPlace.size
  · repeat (any_goals (
      conv => whnf
      first
      | ((with_reducible refine callF (g := 60) ?_ ?_); kernel_rfl; refine ⟨_, szIntS_ok _ t.1.fSeen.length _ (l - t.1.fTitle.size - t.1.fPlace.size) _ (by omega), ?_⟩; intro w4 e4; have z4 := cutLe e4)
      | ((exfalso; omega))
      | ((with_reducible refine BIF.dec ?_ ?_) <;> intro _)
      | ((with_reducible refine BIF.s ?_ ?_) <;> intro _)
      | (with_reducible refine NEXTK.normal ?_)
      | (with_reducible refine NEXTK.ret ?_)
      | (with_reducible refine NEXTK.exit ?_)
      | (with_reducible refine SEQ.plain ?_)
      | (with_reducible refine hK _ _ ?_)
      | ((with_reducible refine RUNL.agg (fun _ => ?_) ?_); (focus kernel_rfl))
      | (with_reducible refine RUNL.run ?_)
      | ((with_reducible refine AR.ok ?_ ?_); exact ⟨by first | omega | (dsimp only; omega), by first | omega | (dsimp only; omega)⟩)
      | (with_reducible refine AR.wr ?_)
      | ((with_reducible intro w3 e3); try have z3 := cutLe e3)
      | ((with_reducible intro h3); have h4 := Nat.le_of_lt h3; clear h4)))
    all_goals
      intro hx
      refine ⟨_, rfl, hx, _, rfl, ?_⟩
      omega
  · repeat (any_goals (
      conv => whnf
      first
      | ((with_reducible refine callF (g := 60) ?_ ?_); kernel_rfl; refine ⟨_, szIntS_no _ t.1.fSeen.length _ (l - t.1.fTitle.size - t.1.fPlace.size) _ (by omega), ?_⟩; intro w4 e4; have z4 := cutLe e4)
      | ((exfalso; omega))
      | ((with_reducible refine BIF.dec ?_ ?_) <;> intro _)
      | ((with_reducible refine BIF.s ?_ ?_) <;> intro _)
      | (with_reducible refine NEXTK.normal ?_)
      | (with_reducible refine NEXTK.ret ?_)
      | (with_reducible refine NEXTK.exit ?_)
      | (with_reducible refine SEQ.plain ?_)
      | (with_reducible refine hK _ _ ?_)
      | ((with_reducible refine RUNL.agg (fun _ => ?_) ?_); (focus kernel_rfl))
      | (with_reducible refine RUNL.run ?_)
      | ((with_reducible refine AR.ok ?_ ?_); exact ⟨by first | omega | (dsimp only; omega), by first | omega | (dsimp only; omega)⟩)
      | (with_reducible refine AR.wr ?_)
      | ((with_reducible intro w3 e3); try have z3 := cutLe e3)
      | ((with_reducible intro h3); have h4 := Nat.le_of_lt h3; clear h4)))
    all_goals
      intro hx
      exact ⟨_, rfl, hx, _, rfl, .inl rfl⟩
theorem szEntryS_c (a : Option Addr) (n c : Nat) (ts : List Tri) (l : Int) (w : World) (hr : Row w a 6 (ts.map encT)) (hn : ts.length = n) (hm : n ≤ 9223372036854775807) (hg : ∀ t ∈ ts, fitT t) (hl : 0 ≤ l ∧ l ≤ 1048576) :
    Calls Tryz.prog 5 #[.slice a n c, .int .i64 l] w fun e w' => ∃ r, e = .returned r ∧ E0 w w' ∧ ∃ v : Int, r = .int .i64 v ∧ (v = -1 ∨ 0 ≤ v ∧ v + n + lens ts ≤ l) := by
  refine enterK Non 27 Tryz.func5 rfl rfl rfl fun K hK => ?_
  by_cases hnl : l < n
  · repeat (any_goals (
      conv => whnf
      first
      | ((exfalso; omega))
      | ((with_reducible refine BIF.dec ?_ ?_) <;> intro _)
      | ((with_reducible refine BIF.s ?_ ?_) <;> intro _)
      | (with_reducible refine NEXTK.normal ?_)
      | (with_reducible refine NEXTK.ret ?_)
      | (with_reducible refine NEXTK.exit ?_)
      | (with_reducible refine SEQ.plain ?_)
      | (with_reducible refine hK _ _ ?_)
      | ((with_reducible refine RUNL.agg (fun _ => ?_) ?_); (focus kernel_rfl))
      | (with_reducible refine RUNL.run ?_)
      | ((with_reducible refine AR.ok ?_ ?_); exact ⟨by first | omega | (dsimp only; omega), by first | omega | (dsimp only; omega)⟩)
      | (with_reducible refine AR.wr ?_)
      | ((with_reducible intro w3 e3); try have z3 := cutLe e3)
      | ((with_reducible intro h3); have h4 := Nat.le_of_lt h3; clear h4)))
    intro hx
    exact ⟨_, rfl, hx, _, rfl, .inl rfl⟩
  repeat (any_goals (
    conv => whnf
    first
    | ((exfalso; omega))
    | ((with_reducible refine BIF.dec ?_ ?_) <;> intro _)
    | ((with_reducible refine BIF.s ?_ ?_) <;> intro _)
    | (with_reducible refine NEXTK.normal ?_)
    | (with_reducible refine NEXTK.ret ?_)
    | (with_reducible refine NEXTK.exit ?_)
    | (with_reducible refine SEQ.plain ?_)
    | (with_reducible refine hK _ _ ?_)
    | ((with_reducible refine RUNL.agg (fun _ => ?_) ?_); (focus kernel_rfl))
    | (with_reducible refine RUNL.run ?_)
    | ((with_reducible refine AR.ok ?_ ?_); exact ⟨by first | omega | (dsimp only; omega), by first | omega | (dsimp only; omega)⟩)
    | (with_reducible refine AR.wr ?_)
    | ((with_reducible intro w3 e3); try have z3 := cutLe e3)
    | ((with_reducible intro h3); have h4 := Nat.le_of_lt h3; clear h4)))
  conv => whnf
  refine LOOP.mk (Nat × Int) (fun g => [(5, .v (.int .i64 g.1)), (1, .v (.int .i64 g.2))]) (fun g _ => g.1 ≤ n ∧ 0 ≤ g.2 ∧ g.2 + n + lens (ts.take g.1) ≤ l) (fun g => n - g.1) (0, l - n) rfl ⟨rfl, rfl, trivial⟩ ⟨Nat.zero_le _, by simp only; omega, by simp [lens]⟩ ?_
  rintro ⟨j, s⟩ wr - ⟨hj, hs0, hs1⟩
  simp only at hj hs0 hs1
  conv => whnf
  repeat (first | ((with_reducible refine NEXTK.normal ?_); conv => whnf) | ((with_reducible refine NEXTK.exit ?_); conv => whnf) | ((with_reducible refine NEXTK.ret ?_); conv => whnf) | ((with_reducible refine SEQ.plain ?_); conv => whnf) | ((with_reducible refine AR.ok ?_ ?_); exact ⟨by omega, by omega⟩; conv => whnf))
  refine BIF.dec (fun hlt => ?_) (fun hlt => ?_)
  · have hlt' : j < ts.length := by simp only at hlt; omega
    have his := hr.isSome (by simp; omega)
    obtain ⟨t, ht⟩ : ∃ t, ts[j]? = some t := ⟨ts[j]'(by omega), by simp⟩
    have hgt := hg t (List.mem_of_getElem? ht)
    unfold fitT maxLen at hgt
    repeat (any_goals (
      conv => whnf
      first
      | ((with_reducible refine OBL.mk ?_ (fun _ => ?_)); exact ⟨by first | omega | (dsimp only; omega), by first | omega | (dsimp only; omega), his⟩)
      | ((with_reducible refine ELD.at (j) hr ?_ ?_ ?_ (fun x' hx' => ?_)); exact mAddr_Non _; (first | rfl | omega); exact hlt'; obtain rfl : t = x' := by (rw [ht] at hx'; exact Option.some.inj hx'))
      | ((with_reducible refine callS (g := 31) ?_ ?_); kernel_rfl; refine ⟨_, szEntry_c t s _ (by omega) (by omega) (by omega) (by omega), ?_⟩; intro r5 w5 e5 h5; have z6 := cutLe e5; obtain ⟨v, rfl, hv⟩ := h5)
      | ((with_reducible refine BIF.dec ?_ ?_) <;> intro _)
      | ((with_reducible refine BIF.dec ?_ ?_) <;> intro _)
      | ((with_reducible refine BIF.s ?_ ?_) <;> intro _)
      | (with_reducible refine NEXTK.normal ?_)
      | (with_reducible refine NEXTK.ret ?_)
      | (with_reducible refine NEXTK.exit ?_)
      | (with_reducible refine SEQ.plain ?_)
      | (with_reducible refine hK _ _ ?_)
      | ((with_reducible refine RUNL.agg (fun _ => ?_) ?_); (focus kernel_rfl))
      | (with_reducible refine RUNL.run ?_)
      | ((with_reducible refine AR.ok ?_ ?_); exact ⟨by first | omega | (dsimp only; omega), by first | omega | (dsimp only; omega)⟩)
      | (with_reducible refine AR.wr ?_)
      | ((with_reducible intro w3 e3); try have z3 := cutLe e3)
      | ((with_reducible intro h3); have h4 := Nat.le_of_lt h3; clear h4)))
    · intro hx'
      exact ⟨_, rfl, hx', _, rfl, .inl rfl⟩
    · have hlt2 := lens_take ht
      exact ⟨(j + 1, v), rfl, ⟨rfl, rfl, trivial⟩, rfl, rfl, ⟨by simp only; omega, by simp only; omega, by simp only; omega⟩, by simp only; omega⟩
  · repeat (any_goals (
      conv => whnf
      first
      | ((with_reducible refine BIF.dec ?_ ?_) <;> intro _)
      | ((with_reducible refine BIF.s ?_ ?_) <;> intro _)
      | (with_reducible refine NEXTK.normal ?_)
      | (with_reducible refine NEXTK.ret ?_)
      | (with_reducible refine NEXTK.exit ?_)
      | (with_reducible refine SEQ.plain ?_)
      | (with_reducible refine hK _ _ ?_)
      | ((with_reducible refine RUNL.agg (fun _ => ?_) ?_); (focus kernel_rfl))
      | (with_reducible refine RUNL.run ?_)
      | ((with_reducible refine AR.ok ?_ ?_); exact ⟨by first | omega | (dsimp only; omega), by first | omega | (dsimp only; omega)⟩)
      | (with_reducible refine AR.wr ?_)
      | ((with_reducible intro w3 e3); try have z3 := cutLe e3)
      | ((with_reducible intro h3); have h4 := Nat.le_of_lt h3; clear h4)))
    intro hx'
    simp only at hlt
    rw [List.take_of_length_le (by omega)] at hs1
    exact ⟨_, rfl, hx', _, rfl, .inr ⟨hs0, hs1⟩⟩
/-- an entry that the law has marked from k on. -/
def mkE (k : Int) (x : Ent) : Ent := ⟨k, mtS (k + 1), mtS (k + 1 + 1), k + 1 + 1 + 1, k + 1 + 1 + 1 + 1, (List.range x.fSeen.length).map (mkI (k + 1 + 1 + 1 + 1 + 1))⟩
theorem mkE_len (k : Int) (x : Ent) : (mkE k x).fSeen.length = x.fSeen.length := by simp [mkE]
def nxE (k : Int) (x : Ent) : Int := k + 1 + 1 + 1 + 1 + 1 + 1 * x.fSeen.length
def mkEs : Int → List Ent → List Ent
  | _, [] => []
  | k, x :: t => mkE k x :: mkEs (nxE k x) t
def nxEs : Int → List Ent → Int
  | k, [] => k
  | k, x :: t => nxEs (nxE k x) t
theorem mkEs_snoc : ∀ (k : Int) (xs : List Ent) (x : Ent), mkEs k (xs ++ [x]) = mkEs k xs ++ [mkE (nxEs k xs) x] ∧ nxEs k (xs ++ [x]) = nxE (nxEs k xs) x
  | k, [], x => ⟨rfl, rfl⟩
  | k, y :: t, x => by
    obtain ⟨h1, h2⟩ := mkEs_snoc (nxE k y) t x
    exact ⟨by simp [mkEs, nxEs, h1], by simp [nxEs, h2]⟩
theorem mkEs_len : ∀ (k : Int) (xs : List Ent), (mkEs k xs).length = xs.length
  | k, [] => rfl
  | k, y :: t => by simp [mkEs, mkEs_len (nxE k y) t]
theorem nxEs_eq : ∀ (k : Int) (ts : List Tri), nxEs k (ts.map (·.1)) = k + 5 * ts.length + lens ts
  | k, [] => by simp [nxEs, lens]
  | k, t :: ts => by
    rw [List.map_cons, nxEs, nxEs_eq (nxE k t.1) ts]
    simp only [nxE, lens, List.map_cons, List.sum_cons, List.length_cons]
    push_cast
    omega
theorem mkEs_get : ∀ (k : Int) (xs : List Ent) (j : Nat) (x : Ent), xs[j]? = some x → (mkEs k xs)[j]? = some (mkE (nxEs k (xs.take j)) x)
  | k, y :: t, 0, x, h => by simp at h; subst h; rfl
  | k, y :: t, j + 1, x, h => by
    simp only [List.getElem?_cons_succ] at h
    simp only [mkEs, List.getElem?_cons_succ, List.take_succ_cons, nxEs]
    exact mkEs_get (nxE k y) t j x h
theorem OwnT.dif {w : World} {lo : Nat} {v : Value} {ts : List Tri} (h : OwnT w lo v ts) {i j : Nat} {t u : Tri} (hij : i ≠ j) (hi : ts[i]? = some t) (hj : ts[j]? = some u) {b : Nat} (hb : t.sl.ownBlock = some b) : u.sl.ownBlock ≠ some b := by
  obtain ⟨i1, i2⟩ := List.getElem?_eq_some_iff.1 hi
  obtain ⟨j1, j2⟩ := List.getElem?_eq_some_iff.1 hj
  have hp := List.pairwise_iff_getElem.1 h.two
  rcases Nat.lt_or_ge i j with hlt | hge
  · have := hp i j i1 j1 hlt
    rw [i2, j2] at this
    exact this b hb
  · have := hp j i j1 i1 (by omega)
    rw [i2, j2] at this
    intro hb2
    exact this b hb2 hb
/-- what an entry's list of numbers becomes when one entry of the own is set. -/
theorem OwnT.set {w w' : World} {lo : Nat} {v : Value} {ts : List Tri} (h : OwnT w lo v ts) {j : Nat} {t u : Tri} (hj : ts[j]? = some t) (hs : u.sl.ownBlock = t.sl.ownBlock)
    (ht : Own w' lo 46 6 v ((ts.map encT).set j (encT u))) (hu : Own w' lo 3 1 u.sl (u.1.fSeen.map encI)) (e : Ext (fun b => v.ownBlock = some b ∨ t.sl.ownBlock = some b) w w') : OwnT w' lo v (ts.set j u) := by
  have hjl := (List.getElem?_eq_some_iff.1 hj).1
  have hmem : ∀ x ∈ ts.set j u, x = u ∨ ∃ i, i ≠ j ∧ ts[i]? = some x := fun x hx => by
    obtain ⟨i, hi⟩ := List.getElem?_of_mem hx
    rw [List.getElem?_set] at hi
    split at hi
    · left
      cases hi; rfl
    · right; exact ⟨i, by omega, hi⟩
  refine ⟨by rw [List.map_set]; exact ht, fun x hx => ?_, fun x hx b hb => ?_, ?_⟩
  · rcases hmem x hx with rfl | ⟨i, hi, hxi⟩
    · exact hu
    · refine (h.sub x (List.mem_of_getElem? hxi)).ext e (fun b hb hb2 => ?_)
      rcases hb2 with h2 | h2
      · exact h.off x (List.mem_of_getElem? hxi) b h2 hb
      · exact h.dif hi hxi hj hb h2
  · rcases hmem x hx with rfl | ⟨i, hi, hxi⟩
    · rw [hs]; exact h.off t (List.mem_of_getElem? hj) b hb
    · exact h.off x (List.mem_of_getElem? hxi) b hb
  · rw [List.pairwise_iff_getElem]
    intro p q hp hq hpq b hb hb2
    rw [List.length_set] at hp hq
    rw [List.getElem_set] at hb hb2
    split at hb
    · split at hb2
      · omega
      · rw [hs] at hb
        exact h.dif (by omega : j ≠ q) hj (List.getElem?_eq_getElem hq) hb hb2
    · split at hb2
      · rw [hs] at hb2
        exact h.dif (by omega : p ≠ j) (List.getElem?_eq_getElem hp) hj hb hb2
      · exact h.dif (by omega : p ≠ q) (List.getElem?_eq_getElem hp) (List.getElem?_eq_getElem hq) hb hb2
/-- the blocks of own entries. -/
def blksT (v : Value) (ts : List Tri) (b : Nat) : Prop := v.ownBlock = some b ∨ ∃ t ∈ ts, t.sl.ownBlock = some b

end Go.Proofs.YtpddilkonkkppaaGreatDoor

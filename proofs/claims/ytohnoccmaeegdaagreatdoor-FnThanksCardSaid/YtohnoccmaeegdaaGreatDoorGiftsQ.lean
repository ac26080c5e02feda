/- What thanks and waits tell. -/
import Derived.Test.YtohnoccmaeegdaaGreatDoorRows
import Derived.Test.YtohnoccmaeegdaaGreatDoorGiftsP
import Derived.Test.YtohnoccmaeegdaaGreatDoorGiftsG
import Derived.Test.YtohnoccmaeegdaaGreatDoorGifts8
import Derived.Test.YtohnoccmaeegdaaGreatDoorGifts9
import Derived.Test.YtohnoccmaeegdaaGreatDoorGifts7
namespace Go.Proofs.YtohnoccmaeegdaaGreatDoor
open Go Go.X Go.Proofs Go.ChangeShapes Go.WideShapes Go.ChangeAt Go.RowKit
open Go.ChangeMaps (open_string shut_string)
set_option maxHeartbeats 1000000
set_option maxRecDepth 20000
set_option linter.unusedVariables false
set_option linter.unusedSimpArgs false
theorem map_are {F : Gft → Gft} {xs : List Gft} (h : areG xs = true) (hF : ∀ x, okG x = true → okG (F x) = true) (hid : ∀ x, (F x).fId = x.fId ∧ (F x).fDay = x.fDay) : areG (xs.map F) = true := by
  unfold areG at h ⊢
  rw [Bool.and_eq_true] at h ⊢
  refine ⟨?_, by simpa using h.2⟩
  have h1 := h.1
  unfold gUpto at h1 ⊢
  rw [List.all_eq_true] at h1 ⊢
  intro k hk
  rw [List.length_map] at hk
  have hk2 := h1 k hk
  unfold gAt at hk2 ⊢
  rw [List.getElem?_map, List.getElem?_map]
  cases hx : xs[k]? with
  | none => rfl
  | some x =>
    rw [hx] at hk2
    simp only [Option.map_some, Bool.and_eq_true, Bool.or_eq_true] at hk2 ⊢
    refine ⟨hF x hk2.1, ?_⟩
    rcases hk2.2 with h | h
    · exact .inl h
    · right
      cases hy : xs[k - 1]? with
      | none => rfl
      | some y =>
        rw [hy] at h
        simp only [Option.map_some] at h ⊢
        rw [(hid y).1, (hid x).1, (hid y).2, (hid x).2]
        exact h
theorem thkF_ok {g : ByteArray} {d : Int} (hd : 0 ≤ d ∧ d ≤ 4000) {x : Gft} (h : okG x = true) : okG (thkF g d x) = true := by
  unfold thkF
  split
  · rename_i hb
    simp only [thkB, Bool.and_eq_true, decide_eq_true_eq] at hb
    unfold okG at h ⊢
    simp only [Bool.and_eq_true] at h ⊢
    refine ⟨h.1, ?_⟩
    rw [Bool.or_eq_true]
    right
    rw [Bool.and_eq_true]
    exact ⟨inB_iff.2 hd, by rw [decide_eq_true_eq]; exact hb.1.2⟩
  · exact h
theorem thkF_off {g : ByteArray} {d : Int} (hd : 0 ≤ d) (x : Gft) : thkB g d (thkF g d x) = false := by
  unfold thkF
  split
  · have h5 : ¬ d = -1 := by omega
    simp [thkB, h5]
  · rename_i h; simpa using h
theorem thk_law {xs : List Gft} {g : ByteArray} {d : Int} (h : (thkP xs g d).2.2 = true) : thkP (thkP xs g d).1 g d = ((thkP xs g d).1, 0, true) := by
  unfold thkP at h
  split at h
  · rename_i hc
    have e : thkP xs g d = (xs.map (thkF g d), (thkN g d xs : Int), true) := by unfold thkP; rw [if_pos hc]
    rw [e]
    simp only [thkOk, Bool.and_eq_true] at hc
    have hd := inB_iff.1 hc.2
    have hs := map_are hc.1.1 (fun x => thkF_ok (g := g) hd) (fun x => by unfold thkF; split <;> exact ⟨rfl, rfl⟩)
    unfold thkP
    rw [if_pos (by simp [thkOk, hs, hc.1.2, hc.2])]
    have e1 : (xs.map (thkF g d)).map (thkF g d) = xs.map (thkF g d) := by
      rw [List.map_map]
      refine List.map_congr_left (fun x _ => ?_)
      show thkF g d (thkF g d x) = thkF g d x
      have h0 := thkF_off (g := g) hd.1 x
      generalize thkF g d x = y at h0 ⊢
      unfold thkF
      rw [if_neg (by simp [h0])]
    have e2 : thkN g d (xs.map (thkF g d)) = 0 := by
      unfold thkN
      rw [List.countP_eq_zero]
      intro y hy
      obtain ⟨x, -, rfl⟩ := List.mem_map.1 hy
      rw [thkF_off hd.1 x]; simp
    rw [e1, e2]; rfl
  · cases h
theorem lw_all (d : Int) (M : Int) : ∀ (ys : List Gft) (s : Int × Int), (∀ y ∈ ys, waitG d y ≤ M) → s.2 ≤ M →
    s.2 ≤ (ys.foldl (lwStep d) s).2 ∧ (ys.foldl (lwStep d) s).2 ≤ M ∧ ∀ y ∈ ys, waitG d y ≤ (ys.foldl (lwStep d) s).2
  | [], s, _, hs => ⟨Int.le_refl _, hs, by simp⟩
  | y :: t, s, h, hs => by
    have hy := h y (by simp)
    have h2 : s.2 ≤ (lwStep d s y).2 ∧ waitG d y ≤ (lwStep d s y).2 ∧ (lwStep d s y).2 ≤ M := by
      unfold lwStep
      split
      · exact ⟨by simp only; omega, Int.le_refl _, hy⟩
      · exact ⟨Int.le_refl _, by omega, hs⟩
    obtain ⟨i1, i2, i3⟩ := lw_all d M t (lwStep d s y) (fun z hz => h z (by simp [hz])) h2.2.2
    rw [List.foldl_cons]
    refine ⟨by omega, i2, fun z hz => ?_⟩
    rcases List.mem_cons.1 hz with rfl | hz
    · omega
    · exact i3 z hz
theorem sumW_le {d M : Int} : ∀ {ys : List Gft}, (∀ y ∈ ys, 0 ≤ waitG d y ∧ waitG d y ≤ M) → 0 ≤ sumW d ys ∧ sumW d ys ≤ ys.length * M
  | [], _ => by simp [sumW]
  | y :: t, h => by
    have ih := sumW_le (ys := t) (fun z hz => h z (by simp [hz]))
    have hy := h y (by simp)
    have e : ((y :: t).length : Int) * M = (t.length : Int) * M + M := by
      rw [List.length_cons]
      push_cast
      rw [Int.add_mul]; omega
    rw [e]
    simp only [sumW]
    omega
theorem frac_le {s m M : Nat} (hm : 1 ≤ m) (h : s ≤ m * M) : s / Nat.gcd s m ≤ M * (m / Nat.gcd s m) := by
  have hg : 0 < Nat.gcd s m := Nat.gcd_pos_of_pos_right _ (by omega)
  obtain ⟨u, hu⟩ := Nat.gcd_dvd_left s m
  obtain ⟨v, hv⟩ := Nat.gcd_dvd_right s m
  generalize Nat.gcd s m = g at *
  have e1 : s / g = u := by rw [hu]; exact Nat.mul_div_cancel_left u hg
  have e2 : m / g = v := by rw [hv]; exact Nat.mul_div_cancel_left v hg
  rw [e1, e2]
  rw [hu, hv, Nat.mul_assoc] at h
  have := Nat.le_of_mul_le_mul_left h hg
  rw [Nat.mul_comm]; exact this
theorem mean_law (xs : List Gft) (d : Int) : (lwP xs d).2.2 = (meanP xs d).2.2 ∧ (0 ≤ (lwP xs d).2.1 * (meanP xs d).2.1 ∧ (lwP xs d).2.1 * (meanP xs d).2.1 ≤ 1000000) ∧ (meanP xs d).1 ≤ (lwP xs d).2.1 * (meanP xs d).2.1 := by
  have hmo : lwOk xs d = meanOk xs d := rfl
  unfold lwP meanP
  rw [hmo]
  by_cases hc : meanOk xs d = true
  · rw [if_pos hc, if_pos hc]
    simp only [meanOk, Bool.and_eq_true, decide_eq_true_eq] at hc
    obtain ⟨⟨c1, c2⟩, c3⟩ := hc
    have hd := inB_iff.1 c2
    have hl := areG_len c1
    have hfl := fil_len d xs
    have hb : ∀ y ∈ fil d xs, 0 ≤ waitG d y ∧ waitG d y ≤ 4000 := fun y hy => by
      obtain ⟨h1, h2⟩ := fil_mem hy
      exact waitG_bnd (areG_ok c1 y h1) hd h2
    generalize fil d xs = ys at *
    obtain ⟨l1, l2, l3⟩ := lw_all d 4000 ys (0, -1) (fun y hy => (hb y hy).2) (by decide)
    have hl0 : 0 ≤ (lwUp d ys).2 := by
      obtain ⟨y, hy⟩ := List.exists_mem_of_length_pos c3
      have := l3 y hy
      have := (hb y hy).1
      unfold lwUp; omega
    have hl4 : (lwUp d ys).2 ≤ 4000 := l2
    obtain ⟨s1, s2⟩ := sumW_le (M := (lwUp d ys).2) (fun y hy => ⟨(hb y hy).1, l3 y hy⟩)
    obtain ⟨M, hM⟩ : ∃ M : Nat, (lwUp d ys).2 = M := ⟨(lwUp d ys).2.toNat, by omega⟩
    obtain ⟨s, hs⟩ : ∃ s : Nat, sumW d ys = s := ⟨(sumW d ys).toNat, by omega⟩
    have s3 : (s : Int) ≤ ys.length * (M : Int) := by rw [← hs, ← hM]; exact s2
    have hM4 : (M : Int) ≤ 4000 := by rw [← hM]; exact hl4
    rw [hM, hs]
    have hsn : s ≤ ys.length * M := by exact_mod_cast s3
    have hf := frac_le c3 hsn
    simp only [Int.toNat_natCast]
    have hdl : ys.length / Nat.gcd s ys.length ≤ 12 := Nat.le_trans (Nat.div_le_self _ _) (by omega)
    generalize hq : ys.length / Nat.gcd s ys.length = q at *
    have e1 : ((ys.length : Int)).tdiv (Nat.gcd s ys.length) = (q : Int) := by rw [← hq]; rfl
    have e2 : (s : Int).tdiv (Nat.gcd s ys.length) = ((s / Nat.gcd s ys.length : Nat) : Int) := rfl
    rw [e1, e2]
    have hp : M * q ≤ 4000 * 12 := Nat.mul_le_mul (by omega) hdl
    have hc' : (M : Int) * (q : Int) = ((M * q : Nat) : Int) := by push_cast; rfl
    rw [hc']
    exact ⟨trivial, ⟨by omega, by omega⟩, by exact_mod_cast hf⟩
  · rw [if_neg hc, if_neg hc]
    simp
def nmAt (xs : List Gft) (i : Nat) : Int := (sheetsP xs ((namesP xs).1.getD i ByteArray.empty)).1
def nmLast (xs : List Gft) (i : Nat) : Int := if i = 0 then 100000 else nmAt xs (i - 1)
theorem names_law {xs : List Gft} (i : Nat) (s : ByteArray) (hs : (namesP xs).1[i]? = some s) :
    (sheetsP xs s).2 = true ∧ (sheetsP xs s).1 = nmAt xs i ∧ nmAt xs i ≤ nmLast xs i := by
  have hgi : nmAt xs i = (sheetsP xs s).1 := by unfold nmAt; simp [List.getD, hs]
  by_cases hg : areG xs = true
  · have hn : (namesP xs).1 = namesN (gLt xs) (giverL xs) := by unfold namesP; rw [if_pos hg]
    obtain ⟨n1, n2, -⟩ := namesN_all (gLt_strict xs) (giverL xs) (fun _ _ => trivial) (giverL xs).length (Nat.le_refl _)
    rw [List.take_length] at n1 n2
    have hokw : ∀ z ∈ (namesP xs).1, okW z = true := fun z hz => by
      rw [hn] at hz
      have := (n2 z).1 hz
      unfold giverL at this
      obtain ⟨x, hx, rfl⟩ := List.mem_map.1 this
      exact (okG_spec (areG_ok hg x hx)).2.1
    have hw := hokw s (List.mem_of_getElem? hs)
    refine ⟨by rw [sheets_good hg hw], hgi.symm, ?_⟩
    rw [hgi]
    unfold nmLast
    split
    · have h1 := sumG_bnd s (areG_ok hg)
      have h2 := areG_len hg
      rw [sheets_good hg hw]; simp only; omega
    · rename_i hi0
      have hlen : i < (namesP xs).1.length := (List.getElem?_eq_some_iff.1 hs).1
      obtain ⟨e, he⟩ : ∃ e, (namesP xs).1[i - 1]? = some e := ⟨(namesP xs).1[i - 1]'(by omega), by simp⟩
      have hge : nmAt xs (i - 1) = (sheetsP xs e).1 := by unfold nmAt; simp [List.getD, he]
      rw [hge, sheets_good hg hw, sheets_good hg (hokw e (List.mem_of_getElem? he))]
      rw [hn] at hs he hlen
      have hp := List.pairwise_iff_getElem.1 n1 (i - 1) i (by omega) hlen (by omega)
      rw [(List.getElem?_eq_some_iff.1 he).2, (List.getElem?_eq_some_iff.1 hs).2] at hp
      simp only
      rcases (gLt_iff xs e s).1 hp with h | h <;> omega
  · have hn : (namesP xs).1 = [] := by unfold namesP; rw [if_neg hg]
    rw [hn] at hs; cases hs

end Go.Proofs.YtohnoccmaeegdaaGreatDoor

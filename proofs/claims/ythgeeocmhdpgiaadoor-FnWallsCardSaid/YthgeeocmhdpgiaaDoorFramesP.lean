/- What a hung frame does. -/
import Derived.Test.YthgeeocmhdpgiaaDoorRows
import Derived.Test.YthgeeocmhdpgiaaDoorFrames4
import Derived.Test.YthgeeocmhdpgiaaDoorFrames6
import Derived.Test.YthgeeocmhdpgiaaDoorFrames2
import Derived.Test.YthgeeocmhdpgiaaDoorFramesB
namespace Go.Proofs.YthgeeocmhdpgiaaDoor
open Go Go.X Go.Proofs Go.ChangeShapes Go.WideShapes Go.ChangeAt Go.RowKit
open Go.ChangeMaps (open_string shut_string)
set_option maxHeartbeats 1000000
set_option maxRecDepth 20000
set_option linter.unusedVariables false
set_option linter.unusedSimpArgs false
def onW (wall day : Int) (x : Frm) : Bool := decide (x.fWall = wall) && inB day x.fFrom x.fUntil
def wS (wall day : Int) : List Frm → Int
  | [] => 0
  | x :: r => (if onW wall day x then x.fWide else 0) + wS wall day r
def widthsOk (xs : List Frm) : Prop := ∀ x ∈ xs, 0 ≤ x.fWide ∧ x.fWide ≤ 500
theorem wS_bnd {wall day : Int} {xs : List Frm} (h : widthsOk xs) : 0 ≤ wS wall day xs ∧ wS wall day xs ≤ 500 * xs.length := by
  induction xs with
  | nil => simp [wS]
  | cons x r ih =>
    have := ih (fun y hy => h y (by simp [hy]))
    have := h x (by simp)
    simp only [wS, List.length_cons]
    split <;> omega
theorem wS_append (wall day : Int) (xs ys : List Frm) : wS wall day (xs ++ ys) = wS wall day xs + wS wall day ys := by
  induction xs with
  | nil => simp [wS]
  | cons x r ih => simp only [List.cons_append, wS, ih]; omega
theorem wOn_go (wall day : Int) : ∀ (xs : List Frm) (s : Int), widthsOk xs → 0 ≤ s → s + 500 * xs.length ≤ 1000000 → xs.foldl (wStep wall day) s = s + wS wall day xs
  | [], s, _, _, _ => by simp [wS]
  | x :: r, s, h, h0, h1 => by
    have hx := h x (by simp)
    simp only [List.length_cons] at h1
    have e : wStep wall day s x = s + (if onW wall day x then x.fWide else 0) := by
      unfold wStep onW
      by_cases hc : x.fWall = wall ∧ inB day x.fFrom x.fUntil = true
      · rw [if_pos hc, if_pos (by simp [hc.1, hc.2]), wrap64_in (by omega) (by omega)]
      · rw [if_neg hc, if_neg (by simpa using hc)]; omega
    rw [List.foldl_cons, e, wOn_go wall day r _ (fun y hy => h y (by simp [hy])) (by split <;> omega) (by split <;> omega)]
    simp only [wS]
    omega
theorem wOn_eq {xs : List Frm} (h : widthsOk xs) (hl : xs.length ≤ 1000) (wall day : Int) : wOn xs wall day = wS wall day xs := by
  unfold wOn
  rw [wOn_go wall day xs 0 h (by omega) (by omega)]; omega
theorem wS_mono {wall d e : Int} {xs : List Frm} (h : widthsOk xs) (hm : ∀ x ∈ xs, onW wall d x = true → onW wall e x = true) : wS wall d xs ≤ wS wall e xs := by
  induction xs with
  | nil => simp [wS]
  | cons x r ih =>
    have := ih (fun y hy => h y (by simp [hy])) (fun y hy => hm y (by simp [hy]))
    have hx := h x (by simp)
    have hmx := hm x (by simp)
    simp only [wS]
    by_cases hc : onW wall d x = true
    · rw [if_pos hc, if_pos (hmx hc)]; omega
    · rw [if_neg hc]; split <;> omega
theorem max_from : ∀ (xs : List Frm), xs = [] ∨ ∃ y ∈ xs, ∀ x ∈ xs, x.fFrom ≤ y.fFrom
  | [] => .inl rfl
  | x :: r => by
    rcases max_from r with h | ⟨y, hy, hm⟩
    · subst h; exact .inr ⟨x, by simp, by simp⟩
    · by_cases hc : x.fFrom ≤ y.fFrom
      · exact .inr ⟨y, by simp [hy], fun z hz => by rcases List.mem_cons.1 hz with rfl | hz; exact hc; exact hm z hz⟩
      · exact .inr ⟨x, by simp, fun z hz => by rcases List.mem_cons.1 hz with rfl | hz; exact Int.le_refl _; have := hm z hz; omega⟩
/-- a wall is fullest on the first day or on a day on which a frame is hung. -/
theorem peak {xs : List Frm} (h : widthsOk xs) (wall lo d : Int) (hd : lo ≤ d) :
    wS wall d xs ≤ wS wall lo xs ∨ ∃ y ∈ xs, y.fWall = wall ∧ lo ≤ y.fFrom ∧ y.fFrom ≤ d ∧ d ≤ y.fUntil ∧ wS wall d xs ≤ wS wall y.fFrom xs := by
  rcases max_from (xs.filter (onW wall d)) with he | ⟨y, hy, hm⟩
  · left
    refine wS_mono h (fun x hx hc => ?_)
    have : x ∈ xs.filter (onW wall d) := List.mem_filter.2 ⟨hx, hc⟩
    rw [he] at this; cases this
  · obtain ⟨hy1, hy2⟩ := List.mem_filter.1 hy
    have hyw : y.fWall = wall ∧ y.fFrom ≤ d ∧ d ≤ y.fUntil := by
      simp [onW, inB] at hy2; omega
    by_cases hc : lo ≤ y.fFrom
    · refine .inr ⟨y, hy1, hyw.1, hc, hyw.2.1, hyw.2.2, wS_mono h (fun x hx hxc => ?_)⟩
      have := hm x (List.mem_filter.2 ⟨hx, hxc⟩)
      simp [onW, inB] at hxc ⊢
      omega
    · refine .inl (wS_mono h (fun x hx hxc => ?_))
      have := hm x (List.mem_filter.2 ⟨hx, hxc⟩)
      simp [onW, inB] at hxc ⊢
      omega
theorem okF_spec' {f : Frm} (h : okF f = true) : (1 ≤ f.fId ∧ f.fId ≤ 99) ∧ (10 ≤ f.fWide ∧ f.fWide ≤ 500) ∧ (1 ≤ f.fWall ∧ f.fWall ≤ 4) ∧ (0 ≤ f.fFrom ∧ f.fFrom ≤ 4000) ∧ (0 ≤ f.fUntil ∧ f.fUntil ≤ 4000) ∧ f.fFrom ≤ f.fUntil := by
  simp [okF, inB] at h
  omega
theorem areF_widths {xs : List Frm} (h : areF xs = true) : widthsOk xs := fun x hx => by
  have := okF_spec' (areF_ok h x hx)
  omega
theorem areF_w {xs : List Frm} (h : areF xs = true) : ∀ x ∈ xs, wS x.fWall x.fFrom xs ≤ 1000 := by
  intro x hx
  obtain ⟨k, hk⟩ := List.getElem?_of_mem hx
  have hw := areF_widths h
  have hl := areF_len h
  simp only [areF, fUpto, wUpto, Bool.and_eq_true, List.all_eq_true, List.mem_range] at h
  have hkl : k < xs.length := (List.getElem?_eq_some_iff.1 hk).1
  have := h.1.2 k hkl
  rw [← wOn_eq hw (by omega)]
  simpa [wAt, hk] using this
theorem width_1000 {xs : List Frm} (wall d : Int) : (widthP xs wall d).1 ≤ 1000 := by
  unfold widthP
  split
  · rename_i h
    have hw := areF_widths h.1
    have hl := areF_len h.1
    have hd : 0 ≤ d := by have := h.2.2; simp [inB] at this; omega
    show wOn xs wall d ≤ 1000
    rw [wOn_eq hw (by omega)]
    rcases peak hw wall (-1) d (by omega) with hp | ⟨y, hy, hyw, -, -, -, hp⟩
    · have : wS wall (-1) xs = 0 := by
        have hz : ∀ (ys : List Frm), (∀ x ∈ ys, 0 ≤ x.fFrom) → wS wall (-1) ys = 0 := by
          intro ys
          induction ys with
          | nil => intro _; rfl
          | cons x r ih =>
            intro hf
            have := hf x (by simp)
            simp only [wS]
            rw [ih (fun y hy => hf y (by simp [hy])), if_neg (by simp [onW, inB]; omega)]; rfl
        exact hz xs (fun x hx => by have := okF_spec' (areF_ok h.1 x hx); omega)
      omega
    · have := areF_w h.1 y hy
      rw [hyw] at this
      omega
  · simp
theorem most_go (wall f u : Int) (ys : List Frm) : ∀ (xs : List Frm) (m : Int), m ≤ xs.foldl (roomStep ys wall f u) m ∧ (∀ x ∈ xs, inB x.fFrom f u = true → wOn ys wall x.fFrom ≤ xs.foldl (roomStep ys wall f u) m) ∧ (∀ v, m ≤ v → (∀ x ∈ xs, inB x.fFrom f u = true → wOn ys wall x.fFrom ≤ v) → xs.foldl (roomStep ys wall f u) m ≤ v)
  | [], m => ⟨Int.le_refl _, by simp, fun v h _ => h⟩
  | x :: r, m => by
    obtain ⟨h1, h2, h3⟩ := most_go wall f u ys r (roomStep ys wall f u m x)
    rw [List.foldl_cons]
    have hs : m ≤ roomStep ys wall f u m x := by unfold roomStep; split <;> omega
    refine ⟨by omega, fun y hy hc => ?_, fun v hv hall => h3 v ?_ (fun y hy => hall y (by simp [hy]))⟩
    · rcases List.mem_cons.1 hy with rfl | hy
      · have : wOn ys wall y.fFrom ≤ roomStep ys wall f u m y := by unfold roomStep; rw [if_pos hc]; omega
        omega
      · exact h2 y hy hc
    · unfold roomStep
      split
      · rename_i hc
        have := hall x (by simp) hc
        omega
      · exact hv
theorem roomMost_spec (xs : List Frm) (wall f u : Int) : wOn xs wall f ≤ roomMost xs wall f u xs.length ∧ (∀ x ∈ xs, inB x.fFrom f u = true → wOn xs wall x.fFrom ≤ roomMost xs wall f u xs.length) ∧
    (∀ v, wOn xs wall f ≤ v → (∀ x ∈ xs, inB x.fFrom f u = true → wOn xs wall x.fFrom ≤ v) → roomMost xs wall f u xs.length ≤ v) := by
  unfold roomMost
  rw [List.take_length]
  exact most_go wall f u xs xs _
theorem onW_iff {wall d : Int} {x : Frm} : onW wall d x = true ↔ (x.fWall = wall ∧ x.fFrom ≤ d ∧ d ≤ x.fUntil) := by simp [onW, inB]
theorem newF_on (xs : List Frm) (wide wall f u d w : Int) : wS w d (xs ++ [newO xs wide wall f u]) = wS w d xs + (if wall = w ∧ f ≤ d ∧ d ≤ u then wide else 0) := by
  rw [wS_append]
  simp only [wS]
  by_cases hc : wall = w ∧ f ≤ d ∧ d ≤ u
  · rw [if_pos (onW_iff.2 hc), if_pos hc]; simp only [newO]; omega
  · rw [if_neg (fun h => hc (onW_iff.1 h)), if_neg hc]; omega
theorem fAt_old {xs : List Frm} {y : Frm} {k : Nat} (hk : k < xs.length) : fAt (xs ++ [y]) k = fAt xs k := by
  unfold fAt
  rw [List.getElem?_append_left hk, List.getElem?_append_left (by omega)]
theorem getD_last {xs : List Frm} (h : 0 < xs.length) : xs.getD (xs.length - 1) default = xs[xs.length - 1]'(by omega) := by
  have e : xs[xs.length - 1]? = some (xs[xs.length - 1]'(by omega)) := List.getElem?_eq_getElem (by omega)
  simp only [List.getD, e, Option.getD_some]
theorem nextId_last {xs : List Frm} (h : 0 < xs.length) : nextId xs = (xs.getD (xs.length - 1) default).fId + 1 := by
  unfold nextId
  rw [List.getLast?_eq_getElem?]
  have e : xs[xs.length - 1]? = some (xs[xs.length - 1]'(by omega)) := List.getElem?_eq_getElem (by omega)
  simp only [List.getD, e, Option.getD_some]
def fitsF (xs : List Frm) (wide wall f u : Int) : Bool := (roomP xs wall f u).2 && decide (10 ≤ wide) && decide (wide ≤ 500) && decide (wide ≤ (roomP xs wall f u).1) && decide (xs.length < 12) && (decide (xs.length = 0) || decide ((xs.getD (xs.length - 1) default).fId < 99))
theorem fits_tt {xs : List Frm} {wide wall f u : Int} (h1 : (roomP xs wall f u).2 = true) (h2 : 10 ≤ wide) (h3 : wide ≤ 500) (h4 : wide ≤ (roomP xs wall f u).1) (h5 : (xs.length : Int) < 12) (h6 : (xs.length : Int) = 0) : fitsF xs wide wall f u = true := by
  have h7 : xs.length = 0 := by omega
  unfold fitsF
  rw [h1, decide_eq_true h2, decide_eq_true h3, decide_eq_true h4, decide_eq_true (by omega : xs.length < 12), decide_eq_true h7]; rfl
theorem fits_y {xs : List Frm} {wide wall f u : Int} {y : Frm} (h1 : (roomP xs wall f u).2 = true) (h2 : 10 ≤ wide) (h3 : wide ≤ 500) (h4 : wide ≤ (roomP xs wall f u).1) (h5 : (xs.length : Int) < 12) (h6 : ¬ (xs.length : Int) = 0) (hy : xs.getD (xs.length - 1) default = y) : fitsF xs wide wall f u = decide (y.fId < 99) := by
  have h7 : ¬ xs.length = 0 := by omega
  unfold fitsF
  rw [h1, decide_eq_true h2, decide_eq_true h3, decide_eq_true h4, decide_eq_true (by omega : xs.length < 12), decide_eq_false h7, hy]
  simp
theorem fits_ff {xs : List Frm} {wide wall f u : Int} (h : (roomP xs wall f u).2 = false ∨ ¬ 10 ≤ wide ∨ ¬ wide ≤ 500 ∨ ¬ wide ≤ (roomP xs wall f u).1 ∨ ¬ (xs.length : Int) < 12) : fitsF xs wide wall f u = false := by
  unfold fitsF
  rcases h with h | h | h | h | h
  · rw [h]; rfl
  · rw [decide_eq_false h]; simp
  · rw [decide_eq_false h]; simp
  · rw [decide_eq_false h]; simp
  · rw [decide_eq_false (by omega : ¬ xs.length < 12)]; simp
theorem hang_spec {xs : List Frm} {r p d u : Int} (h : (hangP xs r p d u).2.2 = true) : areF xs = true ∧ areF (xs ++ [newO xs r p d u]) = true ∧ hangP xs r p d u = (xs ++ [newO xs r p d u], nextId xs, true) := by
  unfold hangP at h ⊢
  split at h
  · rename_i hc
    rw [if_pos hc]
    simp only [Bool.and_eq_true] at hc
    exact ⟨hc.1, hc.2, rfl⟩
  · cases h
theorem room_ge {xs : List Frm} (ha : areF xs = true) (wide wall f u : Int) (hfu : f ≤ u) (hr : wide ≤ roomF xs wall f u) (h0 : 10 ≤ wide) (d : Int) (h1 : f ≤ d) (h2 : d ≤ u) : wS wall d xs + wide ≤ 1000 := by
  have hw := areF_widths ha
  have hl := areF_len ha
  have hm := roomMost_spec xs wall f u
  have hb := wS_bnd (wall := wall) (day := f) hw
  have hub : roomMost xs wall f u xs.length ≤ 6000 := hm.2.2 6000 (by rw [wOn_eq hw (by omega)]; omega) (fun x hx _ => by rw [wOn_eq hw (by omega)]; have := wS_bnd (wall := wall) (day := x.fFrom) hw; omega)
  have hlb : 0 ≤ roomMost xs wall f u xs.length := by have := hm.1; rw [wOn_eq hw (by omega)] at this; omega
  unfold roomF at hr
  rw [wrap64_in (by omega) (by omega)] at hr
  rcases peak hw wall f d h1 with hp | ⟨y, hy, hyw, hy1, hy2, -, hp⟩
  · have := hm.1
    rw [wOn_eq hw (by omega)] at this
    omega
  · have := hm.2.1 y hy (by simp [inB]; omega)
    rw [wOn_eq hw (by omega)] at this
    omega
theorem hang_fits (xs : List Frm) (wide wall f u : Int) : (hangP xs wide wall f u).2.2 = fitsF xs wide wall f u := by
  cases ha : areF xs with
  | false => simp [hangP, fitsF, roomP, ha]
  | true =>
    have hw := areF_widths ha
    have hl := areF_len ha
    have hm := roomMost_spec xs wall f u
    have hb := wS_bnd (wall := wall) (day := f) hw
    have hub : roomMost xs wall f u xs.length ≤ 6000 := hm.2.2 6000 (by rw [wOn_eq hw (by omega)]; omega) (fun x hx _ => by rw [wOn_eq hw (by omega)]; have := wS_bnd (wall := wall) (day := x.fFrom) hw; omega)
    have hlb : 0 ≤ roomMost xs wall f u xs.length := by have := hm.1; rw [wOn_eq hw (by omega)] at this; omega
    have hroom : roomF xs wall f u = 1000 - roomMost xs wall f u xs.length := by unfold roomF; rw [wrap64_in (by omega) (by omega)]
    rw [Bool.eq_iff_iff]
    constructor
    · intro h
      obtain ⟨-, h2, -⟩ := hang_spec h
      have hn := okF_spec' (areF_ok h2 (newO xs wide wall f u) (by simp))
      have hlen := areF_len h2
      have hw2 := areF_widths h2
      simp only [List.length_append, List.length_singleton] at hlen
      simp only [newO] at hn
      obtain ⟨⟨n1, n2⟩, ⟨n3, n4⟩, ⟨n5, n6⟩, ⟨n7, n8⟩, ⟨n9, n10⟩, n11⟩ := hn
      have hle : roomMost xs wall f u xs.length ≤ 1000 - wide := by
        have key : ∀ e, f ≤ e → e ≤ u → wS wall e xs ≤ 1000 - wide := by
          intro e he1 he2
          rcases peak hw wall f e he1 with hp | ⟨y, hy, hyw, hy1, hy2, -, hp⟩
          · have h9 : wS wall f (xs ++ [newO xs wide wall f u]) ≤ 1000 := areF_w h2 (newO xs wide wall f u) (by simp)
            rw [newF_on, if_pos ⟨rfl, by omega, by omega⟩] at h9
            omega
          · have h9 := areF_w h2 y (by simp [hy])
            rw [newF_on, hyw, if_pos ⟨rfl, by omega, by omega⟩] at h9
            omega
        refine hm.2.2 _ (by rw [wOn_eq hw (by omega)]; exact key f (by omega) (by omega)) (fun x hx hc => ?_)
        rw [wOn_eq hw (by omega)]
        simp [inB] at hc
        exact key _ hc.1 hc.2
      have hrp : roomP xs wall f u = (roomF xs wall f u, true) := by
        unfold roomP
        rw [if_pos (by simp [ha, inB]; omega)]
      have hlast : xs.length = 0 ∨ (xs.getD (xs.length - 1) default).fId < 99 := by
        rcases Nat.eq_zero_or_pos xs.length with h0 | h0
        · exact .inl h0
        · have := nextId_last h0
          exact .inr (by omega)
      unfold fitsF
      rw [hrp]
      simp only [hroom, Bool.and_eq_true, Bool.or_eq_true, decide_eq_true_eq]
      refine ⟨⟨⟨⟨⟨trivial, by omega⟩, by omega⟩, by omega⟩, by omega⟩, hlast⟩
    · intro h
      unfold fitsF at h
      simp only [Bool.and_eq_true, Bool.or_eq_true, decide_eq_true_eq] at h
      obtain ⟨⟨⟨⟨⟨h1, h2⟩, h3⟩, h4⟩, h5⟩, h6⟩ := h
      have hc : inB wall 1 4 = true ∧ (inB f 0 4000 = true ∧ inB u 0 4000 = true ∧ f ≤ u) := by
        unfold roomP at h1
        split at h1
        · rename_i hc
          simp only [Bool.and_eq_true, decide_eq_true_eq] at hc
          exact ⟨hc.1.2, hc.2.1.1, hc.2.1.2, hc.2.2⟩
        · cases h1
      have hrp : roomP xs wall f u = (roomF xs wall f u, true) := by
        unfold roomP
        rw [if_pos (by simp [ha, hc.1, hc.2.1, hc.2.2.1, hc.2.2.2])]
      rw [hrp] at h4
      simp only at h4
      have hge := room_ge ha wide wall f u hc.2.2.2 h4 h2
      simp [inB] at hc
      have hid : 1 ≤ nextId xs ∧ nextId xs ≤ 99 := by
        rcases Nat.eq_zero_or_pos xs.length with h0 | h0
        · have : xs = [] := List.eq_nil_of_length_eq_zero h0
          subst this; simp [nextId]
        · rw [nextId_last h0]
          have hmem : xs.getD (xs.length - 1) default ∈ xs := by
            have : xs.getD (xs.length - 1) default = xs[xs.length - 1]'(by omega) := getD_last h0
            rw [this]; exact List.getElem_mem _
          have := okF_spec' (areF_ok ha _ hmem)
          omega
      have hok : okF (newO xs wide wall f u) = true := by
        have : okF ⟨nextId xs, wide, wall, f, u⟩ = true := by simp [okF, inB]; omega
        exact this
      have hwn : widthsOk (xs ++ [newO xs wide wall f u]) := by
        intro x hx
        rcases List.mem_append.1 hx with hx | hx
        · exact hw x hx
        · rw [List.mem_singleton.1 hx]; simp only [newO]; omega
      have hy : areF (xs ++ [newO xs wide wall f u]) = true := by
        have ha' := ha
        simp only [areF, fUpto, wUpto, Bool.and_eq_true, List.all_eq_true, List.mem_range, decide_eq_true_eq] at ha' ⊢
        simp only [List.length_append, List.length_singleton]
        refine ⟨⟨fun k hk => ?_, fun k hk => ?_⟩, by omega⟩
        · rcases Nat.lt_or_ge k xs.length with hlt | hge'
          · rw [fAt_old hlt]; exact ha'.1.1 k hlt
          · obtain rfl : k = xs.length := by omega
            unfold fAt
            rw [List.getElem?_append_right (Nat.le_refl _)]
            simp only [Nat.sub_self, List.getElem?_cons_zero, hok, Bool.true_and]
            rcases Nat.eq_zero_or_pos xs.length with h0 | h0
            · simp [h0]
            · rw [List.getElem?_append_left (by omega)]
              have e : xs[xs.length - 1]? = some (xs[xs.length - 1]'(by omega)) := List.getElem?_eq_getElem (by omega)
              rw [e]
              have hl' : (xs.getD (xs.length - 1) default) = xs[xs.length - 1]'(by omega) := getD_last h0
              have := nextId_last h0
              rw [hl'] at this
              simp [newO, this]
              right
              omega
        · unfold wAt
          rcases Nat.lt_or_ge k xs.length with hlt | hge'
          · rw [List.getElem?_append_left hlt]
            have hx : xs[k]? = some (xs[k]'hlt) := by simp
            rw [hx]
            have hmem : xs[k]'hlt ∈ xs := List.getElem_mem _
            have hold := areF_w ha _ hmem
            simp only [decide_eq_true_eq]
            rw [wOn_eq hwn (by simp; omega), newF_on]
            split
            · rename_i hcc
              have := hge _ hcc.2.1 hcc.2.2
              rw [hcc.1] at this
              exact this
            · omega
          · obtain rfl : k = xs.length := by omega
            rw [List.getElem?_append_right (Nat.le_refl _)]
            simp only [Nat.sub_self, List.getElem?_cons_zero, decide_eq_true_eq]
            rw [wOn_eq hwn (by simp; omega), newF_on]
            show wS wall f xs + (if wall = wall ∧ f ≤ f ∧ f ≤ u then wide else 0) ≤ 1000
            rw [if_pos ⟨rfl, by omega, by omega⟩]
            exact hge f (by omega) (by omega)
      simp [hangP, ha, hy]
theorem hang_law {xs : List Frm} {wide wall f u : Int} (h : (hangP xs wide wall f u).2.2 = true) :
    (widthP xs wall f).2 = true ∧ (widthP (hangP xs wide wall f u).1 wall f).2 = true ∧ (hangingP (hangP xs wide wall f u).1 f).2 = true ∧ (widthP (hangP xs wide wall f u).1 wall f).1 - (widthP xs wall f).1 = wide ∧
    (0 ≤ (widthP xs wall f).1 ∧ (widthP xs wall f).1 ≤ 6000) ∧ (10 ≤ wide ∧ wide ≤ 500) ∧ (hangP xs wide wall f u).2.1 ∈ (hangingP (hangP xs wide wall f u).1 f).1 ∧ (hangP xs wide wall f u).1.length ≤ 12 := by
  obtain ⟨h1, h2, h3⟩ := hang_spec h
  rw [h3]
  have hn := okF_spec' (areF_ok h2 (newO xs wide wall f u) (by simp))
  simp only [newO] at hn
  have hw := areF_widths h1
  have hl := areF_len h1
  have hw2 := areF_widths h2
  have hl2 := areF_len h2
  have hb := wS_bnd (wall := wall) (day := f) hw
  have e1 : widthP xs wall f = (wOn xs wall f, true) := by unfold widthP; rw [if_pos ⟨h1, by simp [inB]; omega, by simp [inB]; omega⟩]
  have e2 : widthP (xs ++ [newO xs wide wall f u]) wall f = (wOn (xs ++ [newO xs wide wall f u]) wall f, true) := by unfold widthP; rw [if_pos ⟨h2, by simp [inB]; omega, by simp [inB]; omega⟩]
  have e3 : hangingP (xs ++ [newO xs wide wall f u]) f = (hangUp (xs ++ [newO xs wide wall f u]) f 4, true) := by unfold hangingP; rw [if_pos (by simp [h2, inB]; omega)]
  rw [e1, e2, e3]
  refine ⟨rfl, rfl, rfl, ?_, ?_, by omega, ?_, hl2⟩
  · show wOn _ _ _ - wOn _ _ _ = wide
    rw [wOn_eq hw (by omega), wOn_eq hw2 (by omega), newF_on, if_pos ⟨rfl, by omega, by omega⟩]
    omega
  · show 0 ≤ wOn _ _ _ ∧ wOn _ _ _ ≤ 6000
    rw [wOn_eq hw (by omega)]
    omega
  · have hmem : ∀ v : Int, v = wall → nextId xs ∈ hangW f v (xs ++ [newO xs wide wall f u]) := by
      intro v hv
      subst hv
      refine List.mem_map.2 ⟨newO xs wide v f u, List.mem_filter.2 ⟨by simp, ?_⟩, rfl⟩
      show (decide (v = v) && inB f f u) = true
      simp [inB]
      omega
    have e4 : hangUp (xs ++ [newO xs wide wall f u]) f 4 = [] ++ hangW f 1 (xs ++ [newO xs wide wall f u]) ++ hangW f 2 (xs ++ [newO xs wide wall f u]) ++ hangW f 3 (xs ++ [newO xs wide wall f u]) ++ hangW f 4 (xs ++ [newO xs wide wall f u]) := rfl
    show nextId xs ∈ hangUp _ f 4
    rw [e4]
    simp only [List.nil_append, List.mem_append]
    have : wall = 1 ∨ wall = 2 ∨ wall = 3 ∨ wall = 4 := by omega
    rcases this with h | h | h | h
    · exact .inl (.inl (.inl (hmem 1 h.symm)))
    · exact .inl (.inl (.inr (hmem 2 h.symm)))
    · exact .inl (.inr (hmem 3 h.symm))
    · exact .inr (hmem 4 h.symm)

end Go.Proofs.YthgeeocmhdpgiaaDoor

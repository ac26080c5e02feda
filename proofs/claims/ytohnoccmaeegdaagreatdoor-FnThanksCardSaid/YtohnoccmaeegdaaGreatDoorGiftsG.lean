/- The names of givers. -/
import Derived.Test.YtohnoccmaeegdaaGreatDoorRows
import Derived.Test.YtohnoccmaeegdaaGreatDoorGiftsF
import Derived.Test.YtohnoccmaeegdaaGreatDoorGiftsC
namespace Go.Proofs.YtohnoccmaeegdaaGreatDoor
open Go Go.X Go.Proofs Go.ChangeShapes Go.WideShapes Go.ChangeAt Go.RowKit
open Go.ChangeMaps (open_string shut_string)
set_option maxHeartbeats 1000000
set_option maxRecDepth 20000
set_option linter.unusedVariables false
set_option linter.unusedSimpArgs false
theorem bl_irr : ∀ x : List UInt8, Op.bytesLess x x = false
  | [] => rfl
  | a :: x => by
    rw [Op.bytesLess, bl_irr x]
    simp
theorem bl_tot : ∀ x y : List UInt8, x ≠ y → Op.bytesLess x y = true ∨ Op.bytesLess y x = true
  | [], [], h => absurd rfl h
  | [], b :: y, _ => .inl rfl
  | a :: x, [], _ => .inr rfl
  | a :: x, b :: y, h => by
    rw [Op.bytesLess, Op.bytesLess]
    by_cases hab : a = b
    · subst hab
      have hxy : x ≠ y := fun e => h (by rw [e])
      rcases bl_tot x y hxy with h1 | h1
      · left; simp [h1]
      · right; simp [h1]
    · have : a.toNat ≠ b.toNat := fun e => hab (UInt8.toNat_inj.1 e)
      rcases Nat.lt_or_gt_of_ne this with h1 | h1
      · left; simp [UInt8.lt_iff_toNat_lt, h1]
      · right; simp [UInt8.lt_iff_toNat_lt, h1]
theorem bl_tr : ∀ x y z : List UInt8, Op.bytesLess x y = true → Op.bytesLess y z = true → Op.bytesLess x z = true
  | x, [], _, h, _ => by cases x <;> simp [Op.bytesLess] at h
  | _, _ :: _, [], _, h => by simp [Op.bytesLess] at h
  | [], _ :: _, _ :: _, _, _ => rfl
  | a :: x, b :: y, c :: z, h1, h2 => by
    rw [Op.bytesLess] at h1 h2 ⊢
    simp only [Bool.or_eq_true, decide_eq_true_eq, Bool.and_eq_true, beq_iff_eq, UInt8.lt_iff_toNat_lt] at h1 h2 ⊢
    rcases h1 with h1 | ⟨rfl, h1⟩
    · rcases h2 with h2 | ⟨rfl, h2⟩
      · exact .inl (Nat.lt_trans h1 h2)
      · exact .inl h1
    · rcases h2 with h2 | ⟨rfl, h2⟩
      · exact .inl h2
      · exact .inr ⟨rfl, bl_tr x y z h1 h2⟩
def gLt (xs : List Gft) (x y : ByteArray) : Bool := decide (gvCmp xs x y < 0)
theorem cmpS_neg (x y : ByteArray) : cmpS x y < 0 ↔ Op.bytesLess x.toList y.toList = true := by
  unfold cmpS
  cases h1 : Op.bytesLess x.toList y.toList with
  | true => simp
  | false => simp; split <;> omega
theorem cmp3_eq0 (a b : Int) : cmp3 a b = 0 ↔ a = b := by
  unfold cmp3
  split
  · constructor <;> intro h <;> omega
  · split
    · constructor <;> intro h <;> omega
    · constructor <;> intro h <;> omega
theorem cmp3_neg0 (a b : Int) : cmp3 a b < 0 ↔ a < b := by
  unfold cmp3
  split
  · constructor <;> intro h <;> omega
  · split
    · constructor <;> intro h <;> omega
    · constructor <;> intro h <;> omega
theorem gLt_iff (xs : List Gft) (x y : ByteArray) : gLt xs x y = true ↔ sumG y xs < sumG x xs ∨ (sumG y xs = sumG x xs ∧ Op.bytesLess x.toList y.toList = true) := by
  unfold gLt gvCmp
  rw [decide_eq_true_eq]
  split
  · rename_i h
    rw [cmp3_eq0] at h
    rw [cmpS_neg]
    constructor
    · intro h'; exact .inr ⟨h, h'⟩
    · rintro (h' | h')
      · omega
      · exact h'.2
  · rename_i h
    rw [cmp3_eq0] at h
    rw [cmp3_neg0]
    constructor
    · exact .inl
    · rintro (h' | h')
      · exact h'
      · exact absurd h'.1 h
theorem gLt_strict (xs : List Gft) : StrictOn (gLt xs) (fun _ => True) where
  irr x _ := by
    cases h : gLt xs x x with
    | false => rfl
    | true =>
      rcases (gLt_iff xs x x).1 h with h | ⟨-, h⟩
      · omega
      · rw [bl_irr] at h; cases h
  tr x y z _ _ _ h1 h2 := by
    rw [gLt_iff] at *
    rcases h1 with h1 | ⟨h1, h3⟩
    · rcases h2 with h2 | ⟨h2, h4⟩ <;> exact .inl (by omega)
    · rcases h2 with h2 | ⟨h2, h4⟩
      · exact .inl (by omega)
      · exact .inr ⟨by omega, bl_tr _ _ _ h3 h4⟩
  tot x y _ _ hne := by
    rw [gLt_iff, gLt_iff]
    rcases Int.lt_trichotomy (sumG y xs) (sumG x xs) with h | h | h
    · exact .inl (.inl h)
    · have hl : x.toList ≠ y.toList := fun e => hne (by
        have := (str_beq x y)
        rw [e] at this
        simpa using this)
      rcases bl_tot _ _ hl with h' | h'
      · exact .inl (.inr ⟨h, h'⟩)
      · exact .inr (.inr ⟨h.symm, h'⟩)
    · exact .inr (.inl h)
def giverL (xs : List Gft) : List ByteArray := xs.map (·.fGiver)
def namesP (xs : List Gft) : List ByteArray × Bool := if areG xs then (namesN (gLt xs) (giverL xs), true) else ([], false)
theorem names_len (xs : List Gft) : (namesN (gLt xs) (giverL xs)).length ≤ xs.length := by
  have := (namesN_all (gLt_strict xs) (giverL xs) (fun _ _ => trivial) (giverL xs).length (Nat.le_refl _)).2.2
  rw [List.take_length] at this
  simpa [giverL] using this
theorem namesP_len (xs : List Gft) : (namesP xs).1.length ≤ xs.length := by
  unfold namesP
  split
  · exact names_len xs
  · simp
theorem giverL_at {xs : List Gft} {k : Nat} {x : Gft} (h : xs[k]? = some x) : (giverL xs)[k]? = some x.fGiver := by simp [giverL, h]
theorem GiverNames_c (a : Option Addr) (n c : Nat) (xs : List Gft) (w : World) (hr : Row w a 5 (xs.map encGft)) (hn : xs.length = n) (hm : n ≤ 1048577) :
    Calls Tryz.prog 14 #[.slice a n c] w fun e w' => ∃ v, e = .returned v ∧ E0 w w' ∧ ∃ s, v = .tuple #[s, .bool (namesP xs).2] ∧ Own w' w.heap.size 9 1 s ((namesP xs).1.map encS) := by
  refine enterK Non 27 Tryz.func14 rfl rfl rfl fun K hK => ?_
  cases g1 : areG xs with
  | false =>
    have hf : namesP xs = ([], false) := by simp [namesP, g1]
    repeat (any_goals (
      conv => whnf
      first
      | ((with_reducible refine callF (g := 26) ?_ ?_); kernel_rfl; refine ⟨_, AreGifts_c _ _ _ xs _ (by repeat (first | assumption | refine Row.e0 ?_ (by assumption))) hn (by omega), ?_⟩; intro w4 e4; have z4 := cutLe e4)
      | ((with_reducible refine BIF.s (fun h => absurd h ?_) (fun _ => ?_)); focus (simp [g1]; done))
      | ((with_reducible refine BIF.s (fun _ => ?_) (fun h => absurd h ?_)); rotate_left; focus (simp [g1]; done))
      | ((with_reducible refine BIF.dec ?_ ?_) <;> intro _)
      | ((with_reducible refine BIF.s ?_ ?_) <;> intro _)
      | (with_reducible refine NEXTK.normal ?_)
      | (with_reducible refine NEXTK.ret ?_)
      | (with_reducible refine NEXTK.exit ?_)
      | (with_reducible refine SEQ.plain ?_)
      | (with_reducible refine hK _ _ ?_)
      | ((with_reducible refine RUNL.agg (fun _ => ?_) ?_); (focus kernel_rfl))
      | (with_reducible refine RUNL.run ?_)
      | ((with_reducible refine AR.ok ?_ ?_); exact ⟨by first | omega | (dsimp only; omega), by first | omega | (dsimp only; omega)⟩)
      | (with_reducible refine AR.wr ?_)
      | ((with_reducible intro w3 e3); try have z3 := cutLe e3)
      | ((with_reducible intro h3); have h4 := Nat.le_of_lt h3; clear h4)))
    intro hx'
    rw [hf]
    exact ⟨_, rfl, hx', _, rfl, Own.nil _ _ _ _⟩
  | true =>
    have hf : namesP xs = (namesN (gLt xs) (giverL xs), true) := by simp [namesP, g1]
    have hl12 := areG_len g1
    obtain ⟨sX, hsX⟩ : ∃ sX, sX = w.heap.size + 1 := ⟨_, rfl⟩
    repeat (any_goals (
      conv => whnf
      first
      | ((with_reducible refine callF (g := 26) ?_ ?_); kernel_rfl; refine ⟨_, AreGifts_c _ _ _ xs _ (by repeat (first | assumption | refine Row.e0 ?_ (by assumption))) hn (by omega), ?_⟩; intro w4 e4; have z4 := cutLe e4)
      | ((with_reducible refine BIF.s (fun h => absurd h ?_) (fun _ => ?_)); focus (simp [g1]; done))
      | ((with_reducible refine BIF.s (fun _ => ?_) (fun h => absurd h ?_)); rotate_left; focus (simp [g1]; done))
      | ((with_reducible refine BIF.dec ?_ ?_) <;> intro _)
      | ((with_reducible refine BIF.s ?_ ?_) <;> intro _)
      | (with_reducible refine NEXTK.normal ?_)
      | (with_reducible refine NEXTK.ret ?_)
      | (with_reducible refine NEXTK.exit ?_)
      | (with_reducible refine SEQ.plain ?_)
      | (with_reducible refine hK _ _ ?_)
      | ((with_reducible refine RUNL.agg (fun _ => ?_) ?_); (focus kernel_rfl))
      | (with_reducible refine RUNL.run ?_)
      | ((with_reducible refine AR.ok ?_ ?_); exact ⟨by first | omega | (dsimp only; omega), by first | omega | (dsimp only; omega)⟩)
      | (with_reducible refine AR.wr ?_)
      | ((with_reducible intro w3 e3); try have z3 := cutLe e3)
      | ((with_reducible intro h3); have h4 := Nat.le_of_lt h3; clear h4)))
    conv => whnf
    refine LOOP.mk (Nat × (Option Addr × Nat × Nat)) (fun g => [(12, .v (.int .i64 g.1)), (4, .v (.slice g.2.1 g.2.2.1 g.2.2.2))]) (fun g wr => g.1 ≤ n ∧ sX ≤ wr.heap.size ∧ Own wr sX 9 1 (.slice g.2.1 g.2.2.1 g.2.2.2) (((giverL xs).take g.1).map encS)) (fun g => n - g.1) (0, (none, 0, 0)) rfl ⟨rfl, rfl, trivial⟩ ⟨Nat.zero_le _, by show sX ≤ w4.heap.size; omega, Own.nil _ _ _ _⟩ ?_
    rintro ⟨k, ⟨a1, m1, c1⟩⟩ wr - ⟨hk, hz, hown⟩
    simp only at hk hz hown
    have oL := fun k h => hown.block (k := k) h
    have hml := hown.row.2
    rw [List.length_map, List.length_take] at hml
    have hgl : (giverL xs).length = n := by simp [giverL, hn]
    dsimp only
    conv => whnf
    repeat (first | ((with_reducible refine NEXTK.normal ?_); conv => whnf) | ((with_reducible refine NEXTK.exit ?_); conv => whnf) | ((with_reducible refine NEXTK.ret ?_); conv => whnf) | ((with_reducible refine SEQ.plain ?_); conv => whnf) | ((with_reducible refine AR.ok ?_ ?_); exact ⟨by omega, by omega⟩; conv => whnf))
    refine BIF.dec (fun hlt => ?_) (fun hlt => ?_)
    · have hlt' : k < xs.length := by omega
      have his := hr.isSome (by simp; omega)
      obtain ⟨x, hx⟩ : ∃ x, xs[k]? = some x := ⟨xs[k]'hlt', by simp⟩
      have hgx := giverL_at hx
      repeat (any_goals (
        conv => whnf
        first
        | ((with_reducible refine OBL.mk ?_ (fun _ => ?_)); exact ⟨by first | omega | (dsimp only; omega), by first | omega | (dsimp only; omega), his⟩)
        | ((with_reducible refine ELD.at (k) hr ?_ ?_ ?_ (fun x' hx' => ?_)); exact mAddr_Non _; (first | rfl | omega); exact hlt'; obtain rfl : x = x' := by (rw [hx] at hx'; exact Option.some.inj hx'))
        | ((with_reducible intro w3 e3); have z3 := cutLe e3; replace hown := hown.ext e3 (by first | exact fun _ _ h => h | (intro k hk h; have hh := oL k hk; simp only [bk] at h; omega)))
        | ((with_reducible refine bsS elemS [.string x.fGiver] ?_ ?_ ?_ ?_ ?_); (focus rfl); (focus rfl); (focus (intro v hv; simp at hv; subst hv; rfl)); (focus omega); intro w9 e9 oB; have z9 := cutLe e9; (try replace oC := oC.e0 e9) ; replace hown := hown.e0 e9)
        | ((with_reducible refine BIF.dec ?_ ?_) <;> intro _)
        | ((with_reducible refine BIF.s ?_ ?_) <;> intro _)
        | (with_reducible refine NEXTK.normal ?_)
        | (with_reducible refine NEXTK.ret ?_)
        | (with_reducible refine NEXTK.exit ?_)
        | (with_reducible refine SEQ.plain ?_)
        | (with_reducible refine hK _ _ ?_)
        | ((with_reducible refine RUNL.agg (fun _ => ?_) ?_); (focus kernel_rfl))
        | (with_reducible refine RUNL.run ?_)
        | ((with_reducible refine AR.ok ?_ ?_); exact ⟨by first | omega | (dsimp only; omega), by first | omega | (dsimp only; omega)⟩)
        | (with_reducible refine AR.wr ?_)
        | ((with_reducible intro w3 e3); try have z3 := cutLe e3)
        | ((with_reducible intro h3); have h4 := Nat.le_of_lt h3; clear h4)))
      conv => whnf
      refine apS (ns := [encS x.fGiver]) elemS hown oB.row.1 rfl (by intro l hl; simp at hl; subst hl; rfl) ⟨by simp; omega, by simp; omega⟩ ⟨by show w.heap.size ≤ _; omega, by omega⟩ (by repeat (first | exact trivial | (refine ⟨?_, ?_⟩; (focus (intro h; have hh := oL _ h; dsimp only at hh; omega))))) (fun v2 w2 x2 o2 => ?_)
      have z2 := cutLe x2
      replace o2 : Own w2 sX 9 1 v2 (((giverL xs).take (k + 1)).map encS) := by rw [List.take_add_one, hgx]; simpa using o2
      obtain ⟨b2, d2, rfl, q2, p2⟩ := o2.rowx
      repeat (any_goals (
        conv => whnf
        first
        | ((with_reducible refine BIF.dec ?_ ?_) <;> intro _)
        | ((with_reducible refine BIF.s ?_ ?_) <;> intro _)
        | (with_reducible refine NEXTK.normal ?_)
        | (with_reducible refine NEXTK.ret ?_)
        | (with_reducible refine NEXTK.exit ?_)
        | (with_reducible refine SEQ.plain ?_)
        | (with_reducible refine hK _ _ ?_)
        | ((with_reducible refine RUNL.agg (fun _ => ?_) ?_); (focus kernel_rfl))
        | (with_reducible refine RUNL.run ?_)
        | ((with_reducible refine AR.ok ?_ ?_); exact ⟨by first | omega | (dsimp only; omega), by first | omega | (dsimp only; omega)⟩)
        | (with_reducible refine AR.wr ?_)
        | ((with_reducible intro w3 e3); try have z3 := cutLe e3)
        | ((with_reducible intro h3); have h4 := Nat.le_of_lt h3; clear h4)))
      exact ⟨(k + 1, (b2, _, d2)), rfl, ⟨rfl, rfl, trivial⟩, rfl, rfl, ⟨by simp only; omega, by show sX ≤ w2.heap.size; omega, o2⟩, by simp only; omega⟩
    · have hkj : k = (giverL xs).length := by omega
      rw [hkj, List.take_length] at hown
      have hm1 : (giverL xs).length = m1 := by omega
      repeat (any_goals (
        conv => whnf
        first
        | ((with_reducible refine BIF.dec ?_ ?_) <;> intro _)
        | ((with_reducible refine BIF.s ?_ ?_) <;> intro _)
        | (with_reducible refine NEXTK.normal ?_)
        | (with_reducible refine NEXTK.ret ?_)
        | (with_reducible refine NEXTK.exit ?_)
        | (with_reducible refine SEQ.plain ?_)
        | (with_reducible refine hK _ _ ?_)
        | ((with_reducible refine RUNL.agg (fun _ => ?_) ?_); (focus kernel_rfl))
        | (with_reducible refine RUNL.run ?_)
        | ((with_reducible refine AR.ok ?_ ?_); exact ⟨by first | omega | (dsimp only; omega), by first | omega | (dsimp only; omega)⟩)
        | (with_reducible refine AR.wr ?_)
        | ((with_reducible intro w3 e3); try have z3 := cutLe e3)
        | ((with_reducible intro h3); have h4 := Nat.le_of_lt h3; clear h4)))
      conv => whnf
      refine callMXB (g := 41) (by kernel_rfl) ⟨_, _, ⟨fun h => by have := (oL _ h).1; dsimp only at this; omega, trivial⟩, fun b hb h => by have := (oL _ h).1; omega, fun hX hbx => SortFuncS_c (gvCmp xs) _ _ _ _ (giverL xs) _ _ _ hown hm1 (by omega) (by kernel_rfl) (fun x y w' hX2 => giverCmp_c x y _ _ _ xs _ w' ((Boxes.row hbx 0 _ _ _ rfl).ext hX2 (fun h => by have := (oL _ h).1; dsimp only at this; omega)) (Row.past hr (hr.ext hX (mAddr_Non _)) hX2 (fun b hb h => by have := (oL _ h).1; omega)) hn g1), fun r w6 e6 h6 => ?_⟩
      obtain ⟨rfl, o6⟩ := h6
      have z6 := cutLe e6
      have oL6 := fun k h => o6.block (k := k) h
      obtain ⟨a6, c6, h6, q6, p6⟩ := o6.rowx
      have hil := isortR_len (gLt xs) (giverL xs)
      have hlt0 : gLt xs = fun x y => decide (gvCmp xs x y < 0) := rfl
      rw [← hlt0] at o6 h6 p6
      simp only [Value.slice.injEq] at h6
      obtain ⟨rfl, h6, rfl⟩ := h6
      repeat (any_goals (
        conv => whnf
        first
        | ((with_reducible refine BIF.dec ?_ ?_) <;> intro _)
        | ((with_reducible refine BIF.s ?_ ?_) <;> intro _)
        | (with_reducible refine NEXTK.normal ?_)
        | (with_reducible refine NEXTK.ret ?_)
        | (with_reducible refine NEXTK.exit ?_)
        | (with_reducible refine SEQ.plain ?_)
        | (with_reducible refine hK _ _ ?_)
        | ((with_reducible refine RUNL.agg (fun _ => ?_) ?_); (focus kernel_rfl))
        | (with_reducible refine RUNL.run ?_)
        | ((with_reducible refine AR.ok ?_ ?_); exact ⟨by first | omega | (dsimp only; omega), by first | omega | (dsimp only; omega)⟩)
        | (with_reducible refine AR.wr ?_)
        | ((with_reducible intro w3 e3); try have z3 := cutLe e3)
        | ((with_reducible intro h3); have h4 := Nat.le_of_lt h3; clear h4)))
      conv => whnf
      refine callM (g := 46) (by kernel_rfl) ⟨_, _, ⟨fun h => by have := (oL6 _ h).1; dsimp only at this; omega, trivial⟩, fun b hb h => by have := (oL6 _ h).1; omega, CompactS_c _ _ _ _ _ _ o6 h6.symm (by omega) (by omega), fun r w7 e7 o7 => ?_⟩
      have z7 := cutLe e7
      have hne := names_eq (gLt_strict xs) (giverL xs) (fun _ _ => trivial)
      rw [show m1 = (giverL xs).length from by omega, hne] at o7
      obtain ⟨b7, d7, rfl, q7, p7⟩ := o7.rowx
      repeat (any_goals (
        conv => whnf
        first
        | ((with_reducible refine BIF.dec ?_ ?_) <;> intro _)
        | ((with_reducible refine BIF.s ?_ ?_) <;> intro _)
        | (with_reducible refine NEXTK.normal ?_)
        | (with_reducible refine NEXTK.ret ?_)
        | (with_reducible refine NEXTK.exit ?_)
        | (with_reducible refine SEQ.plain ?_)
        | (with_reducible refine hK _ _ ?_)
        | ((with_reducible refine RUNL.agg (fun _ => ?_) ?_); (focus kernel_rfl))
        | (with_reducible refine RUNL.run ?_)
        | ((with_reducible refine AR.ok ?_ ?_); exact ⟨by first | omega | (dsimp only; omega), by first | omega | (dsimp only; omega)⟩)
        | (with_reducible refine AR.wr ?_)
        | ((with_reducible intro w3 e3); try have z3 := cutLe e3)
        | ((with_reducible intro h3); have h4 := Nat.le_of_lt h3; clear h4)))
      intro hx'
      rw [hf]
      exact ⟨_, rfl, hx', _, rfl, o7.lo (by omega)⟩
theorem rowPreS {w : World} {p : Option Addr} {L : List ByteArray} {k e : Nat} (h : Row w p 1 (L.map encS)) (hk : (k : Int) ≤ e) : Row w (if (e : Int).toNat = Int.toNat 0 then p else p.map (·.add (Int.toNat 0 * 1))) 1 ((L.take k).map encS) := by
  have := h.sub 0 (k : Int) (e : Int) hk
  simpa using this
theorem rowSufS {w : World} {p : Option Addr} {L : List ByteArray} {k e : Nat} (h : Row w p 1 (L.map encS)) (hk : (L.length : Int) ≤ e) : Row w (if (e : Int).toNat = (k : Int).toNat then p else p.map (·.add ((k : Int).toNat * 1))) 1 ((L.drop k).map encS) := by
  have := h.sub (k : Int) (L.length : Int) (e : Int) hk
  simp only [Int.toNat_natCast] at this ⊢
  rw [List.take_of_length_le (by simp)] at this
  exact this
theorem GiverNamesS_c (a : Option Addr) (n c : Nat) (xs : List Gft) (w : World) (hr : Row w a 5 (xs.map encGft)) (hn : xs.length = n) (hm : n ≤ 1048577) (hg : ∀ x ∈ xs, x.fGiver.size ≤ 9223372036854775807) :
    Calls Tryz.prog 15 #[.slice a n c] w fun e w' => ∃ v, e = .returned v ∧ E0 w w' ∧ ∃ s, v = .tuple #[s, .bool (namesP xs).2] ∧ Own w' w.heap.size 9 1 s ((namesP xs).1.map encS) := by
  refine enterK Non 97 Tryz.func15 rfl rfl rfl fun K hK => ?_
  cases g1 : areG xs with
  | false =>
    have hf : namesP xs = ([], false) := by simp [namesP, g1]
    repeat (any_goals (
      conv => whnf
      first
      | ((with_reducible refine bsS elemS [] rfl rfl (by simp) (by omega) (fun w9 e9 o9 => ?_)); have z9 := cutLe e9)
      | ((with_reducible refine callF (g := 30) ?_ ?_); kernel_rfl; refine ⟨_, l26Good_c _ _ _ xs _ (by repeat (first | assumption | refine Row.e0 ?_ (by assumption))) hn (by omega) hg, ?_⟩; intro w4 e4; have z4 := cutLe e4)
      | ((with_reducible refine BIF.s (fun h => absurd h ?_) (fun _ => ?_)); focus (simp [g1]; done))
      | ((with_reducible refine BIF.s (fun _ => ?_) (fun h => absurd h ?_)); rotate_left; focus (simp [g1]; done))
      | ((with_reducible refine BIF.dec ?_ ?_) <;> intro _)
      | ((with_reducible refine BIF.s ?_ ?_) <;> intro _)
      | (with_reducible refine NEXTK.normal ?_)
      | (with_reducible refine NEXTK.ret ?_)
      | (with_reducible refine NEXTK.exit ?_)
      | (with_reducible refine SEQ.plain ?_)
      | (with_reducible refine hK _ _ ?_)
      | ((with_reducible refine RUNL.agg (fun _ => ?_) ?_); (focus kernel_rfl))
      | (with_reducible refine RUNL.run ?_)
      | ((with_reducible refine AR.ok ?_ ?_); exact ⟨by first | omega | (dsimp only; omega), by first | omega | (dsimp only; omega)⟩)
      | (with_reducible refine AR.wr ?_)
      | ((with_reducible intro w3 e3); try have z3 := cutLe e3)
      | ((with_reducible intro h3); have h4 := Nat.le_of_lt h3; clear h4)))
    intro hx'
    rw [hf]
    exact ⟨_, rfl, hx', _, rfl, (by clear hx'; repeat (first | exact o9 | exact o9.lo (by omega) | refine Own.e0 ?_ (by assumption)))⟩
  | true =>
    have hf : namesP xs = (namesN (gLt xs) (giverL xs), true) := by simp [namesP, g1]
    have hl12 := areG_len g1
    conv => whnf
    repeat (first | ((with_reducible refine NEXTK.normal ?_); conv => whnf) | ((with_reducible refine NEXTK.exit ?_); conv => whnf) | ((with_reducible refine NEXTK.ret ?_); conv => whnf) | ((with_reducible refine SEQ.plain ?_); conv => whnf) | ((with_reducible refine AR.ok ?_ ?_); exact ⟨by omega, by omega⟩; conv => whnf))
    refine bsS elemS [] rfl rfl (by simp) (by omega) (fun w1 e1 o1 => ?_)
    have z1 := cutLe e1
    replace o1 : Own w1 w.heap.size 9 1 (.slice (some ⟨w.heap.size, 0, none⟩) 0 0) (([] : List ByteArray).map encS) := o1
    repeat (any_goals (
      conv => whnf
      first
      | ((with_reducible refine callF (g := 30) ?_ ?_); kernel_rfl; refine ⟨_, l26Good_c _ _ _ xs _ (by repeat (first | assumption | refine Row.e0 ?_ (by assumption))) hn (by omega) hg, ?_⟩; intro w4 e4; have z4 := cutLe e4 ; replace o1 := o1.e0 e4)
      | ((with_reducible refine BIF.s (fun h => absurd h ?_) (fun _ => ?_)); focus (simp [g1]; done))
      | ((with_reducible refine BIF.s (fun _ => ?_) (fun h => absurd h ?_)); rotate_left; focus (simp [g1]; done))
      | ((with_reducible refine BIF.dec ?_ ?_) <;> intro _)
      | ((with_reducible refine BIF.s ?_ ?_) <;> intro _)
      | (with_reducible refine NEXTK.normal ?_)
      | (with_reducible refine NEXTK.ret ?_)
      | (with_reducible refine NEXTK.exit ?_)
      | (with_reducible refine SEQ.plain ?_)
      | (with_reducible refine hK _ _ ?_)
      | ((with_reducible refine RUNL.agg (fun _ => ?_) ?_); (focus kernel_rfl))
      | (with_reducible refine RUNL.run ?_)
      | ((with_reducible refine AR.ok ?_ ?_); exact ⟨by first | omega | (dsimp only; omega), by first | omega | (dsimp only; omega)⟩)
      | (with_reducible refine AR.wr ?_)
      | ((with_reducible intro w3 e3); try have z3 := cutLe e3)
      | ((with_reducible intro h3); have h4 := Nat.le_of_lt h3; clear h4)))
    conv => whnf
    refine LOOP.mk (Nat × (Option Addr × Nat × Nat)) (fun g => [(5, .v (.int .i64 g.1)), (4, .v (.slice g.2.1 g.2.2.1 g.2.2.2))]) (fun g wr => g.1 ≤ n ∧ w.heap.size ≤ wr.heap.size ∧ Own wr w.heap.size 9 1 (.slice g.2.1 g.2.2.1 g.2.2.2) ((namesN (gLt xs) ((giverL xs).take g.1)).map encS)) (fun g => n - g.1) (0, (some ⟨w.heap.size, 0, none⟩, 0, 0)) rfl ⟨rfl, rfl, trivial⟩ ⟨Nat.zero_le _, by show w.heap.size ≤ w4.heap.size; omega, o1⟩ ?_
    clear o1
    rintro ⟨k, ⟨a1, m1, c1⟩⟩ wr - ⟨hk, hz, hown⟩
    simp only at hk hz hown
    have hgl : (giverL xs).length = n := by simp [giverL, hn]
    have hall := namesN_all (gLt_strict xs) (giverL xs) (fun _ _ => trivial) k (by omega)
    obtain ⟨L, hL⟩ : ∃ L, L = namesN (gLt xs) ((giverL xs).take k) := ⟨_, rfl⟩
    rw [← hL] at hown hall
    have hml := hown.row.2
    rw [List.length_map] at hml
    have hLl := hall.2.2
    have hcap : L.length ≤ c1 ∧ c1 < 9223372036854775808 := by
      obtain ⟨ax, cx, he, -, hcap⟩ := hown.rowx
      simp only [Value.slice.injEq] at he
      obtain ⟨-, -, rfl⟩ := he
      exact hcap
    dsimp only
    conv => whnf
    repeat (first | ((with_reducible refine NEXTK.normal ?_); conv => whnf) | ((with_reducible refine NEXTK.exit ?_); conv => whnf) | ((with_reducible refine NEXTK.ret ?_); conv => whnf) | ((with_reducible refine SEQ.plain ?_); conv => whnf) | ((with_reducible refine AR.ok ?_ ?_); exact ⟨by omega, by omega⟩; conv => whnf))
    refine BIF.dec (fun hlt => ?_) (fun hlt => ?_)
    · have hlt' : k < xs.length := by omega
      have his := hr.isSome (by simp; omega)
      obtain ⟨x, hx⟩ : ∃ x, xs[k]? = some x := ⟨xs[k]'hlt', by simp⟩
      have hgx := giverL_at hx
      have hnext := namesN_take (lt := gLt xs) hgx
      rw [← hL] at hnext
      obtain ⟨nm, hnm⟩ : ∃ nm, nm = x.fGiver := ⟨_, rfl⟩
      rw [← hnm] at hnext
      repeat (any_goals (
        conv => whnf
        first
        | ((with_reducible refine OBL.mk ?_ (fun _ => ?_)); exact ⟨by first | omega | (dsimp only; omega), by first | omega | (dsimp only; omega), his⟩)
        | ((with_reducible refine ELD.at (k) hr ?_ ?_ ?_ (fun x' hx' => ?_)); exact mAddr_Non _; (first | rfl | omega); exact hlt'; obtain rfl : x = x' := by (rw [hx] at hx'; exact Option.some.inj hx'))
        | ((with_reducible refine callX (g := 47) ?_ ?_); kernel_rfl; intro hX; refine ⟨_, l26Sum_c _ _ _ xs _ _ (hr.ext hX (mAddr_Non _)) hn g1, ?_⟩; clear hX; intro w4 e4; have z4 := cutLe e4; replace hown := hown.e0 e4)
        | ((with_reducible refine BIF.dec ?_ ?_) <;> intro _)
        | ((with_reducible refine BIF.s ?_ ?_) <;> intro _)
        | (with_reducible refine NEXTK.normal ?_)
        | (with_reducible refine NEXTK.ret ?_)
        | (with_reducible refine NEXTK.exit ?_)
        | (with_reducible refine SEQ.plain ?_)
        | (with_reducible refine hK _ _ ?_)
        | ((with_reducible refine RUNL.agg (fun _ => ?_) ?_); (focus kernel_rfl))
        | (with_reducible refine RUNL.run ?_)
        | ((with_reducible refine AR.ok ?_ ?_); exact ⟨by first | omega | (dsimp only; omega), by first | omega | (dsimp only; omega)⟩)
        | (with_reducible refine AR.wr ?_)
        | ((with_reducible intro w3 e3); try have z3 := cutLe e3)
        | ((with_reducible intro h3); have h4 := Nat.le_of_lt h3; clear h4)))
      rw [← hnm]
      conv => whnf
      obtain ⟨s4, hs4⟩ : ∃ s4, s4 = w4.heap.size := ⟨_, rfl⟩
      have oW : ∀ k, (Value.slice a1 m1 c1).ownBlock = some k → k < s4 := fun k h => by have := (hown.block (k := k) h).2; omega
      refine LOOP.mk (Nat × TV) (fun g => [(10, .v (.int .i64 g.1)), (9, g.2)]) (fun g ws => g.1 ≤ L.length ∧ s4 ≤ ws.heap.size ∧ TB g.2 ((L.take g.1).any (fun y => decide (nm = y))) ∧ Own ws w.heap.size 9 1 (.slice a1 m1 c1) (L.map encS)) (fun g => L.length - g.1) (0, .ff) rfl ⟨rfl, rfl, trivial⟩ ⟨Nat.zero_le _, by show s4 ≤ w4.heap.size; omega, by simp [TB], hown⟩ ?_
      clear hown
      rintro ⟨j, tv⟩ ws - ⟨hj, hws, htv, hown⟩
      simp only at hj hws htv hown
      have oL := fun k h => hown.block (k := k) h
      dsimp only
      by_cases hjn : j < L.length
      · have his2 := hown.row.1.isSome (by simp; omega)
        obtain ⟨y, hy⟩ : ∃ y, L[j]? = some y := ⟨L[j]'hjn, by simp⟩
        have hany : (L.take (j + 1)).any (fun y => decide (nm = y)) = ((L.take j).any (fun y => decide (nm = y)) || decide (nm = y)) := by
          rw [List.take_add_one, hy]; simp
        rcases htv with ⟨rfl, hb⟩ | ⟨rfl, hb⟩ | rfl
        all_goals
          repeat (any_goals (
            conv => whnf
            first
            | ((with_reducible refine BIF.dec (fun (h : (j : Int) < m1) => ?_) (fun h => absurd (by omega) h)))
            | ((with_reducible refine BIF.s ?_ ?_) <;> intro hb)
            | ((with_reducible refine OBL.mk ?_ (fun _ => ?_)); exact ⟨by first | omega | (dsimp only; omega), by first | omega | (dsimp only; omega), his2⟩)
            | ((with_reducible refine ELD.atNow (enc := encS) (xs := L) j hown.row.1 ?_ ?_ (fun x' hx' => ?_)); (focus omega); (focus omega); obtain rfl : y = x' := (by rw [hy] at hx'; exact Option.some.inj hx'))
            | ((with_reducible refine BIF.dec ?_ ?_) <;> intro _)
            | ((with_reducible refine BIF.s ?_ ?_) <;> intro _)
            | (with_reducible refine NEXTK.normal ?_)
            | (with_reducible refine NEXTK.ret ?_)
            | (with_reducible refine NEXTK.exit ?_)
            | (with_reducible refine SEQ.plain ?_)
            | (with_reducible refine hK _ _ ?_)
            | ((with_reducible refine RUNL.agg (fun _ => ?_) ?_); (focus kernel_rfl))
            | (with_reducible refine RUNL.run ?_)
            | ((with_reducible refine AR.ok ?_ ?_); exact ⟨by first | omega | (dsimp only; omega), by first | omega | (dsimp only; omega)⟩)
            | (with_reducible refine AR.wr ?_)
            | ((with_reducible intro w3 e3); try have z3 := cutLe e3)
            | ((with_reducible intro h3); have h4 := Nat.le_of_lt h3; clear h4)))
          all_goals
            refine ⟨(j + 1, _), ?_, ⟨rfl, rfl, trivial⟩, rfl, rfl, ⟨by simp only; omega, by dsimp only; omega, ?_, hown⟩, by simp only; omega⟩
            · rfl
            · rw [hany, hb]
              first
              | exact .inl ⟨rfl, by simp⟩
              | exact .inr (.inr (by rw [Bool.false_or, str_beq]; exact congrArg (fun b => TV.v (.bool b)) (decide_eq_decide.2 ⟨fun e => e.symm, fun e => e.symm⟩)))
      · have hjl : j = L.length := by omega
        rw [hjl, List.take_length] at htv
        have hnd : j = m1 := by omega
        repeat (any_goals (
          conv => whnf
          first
          | ((with_reducible refine BIF.dec (fun (h : (j : Int) < m1) => absurd h (by omega)) (fun h => ?_)))
          | ((with_reducible refine BIF.dec ?_ ?_) <;> intro _)
          | ((with_reducible refine BIF.s ?_ ?_) <;> intro _)
          | (with_reducible refine NEXTK.normal ?_)
          | (with_reducible refine NEXTK.ret ?_)
          | (with_reducible refine NEXTK.exit ?_)
          | (with_reducible refine SEQ.plain ?_)
          | (with_reducible refine hK _ _ ?_)
          | ((with_reducible refine RUNL.agg (fun _ => ?_) ?_); (focus kernel_rfl))
          | (with_reducible refine RUNL.run ?_)
          | ((with_reducible refine AR.ok ?_ ?_); exact ⟨by first | omega | (dsimp only; omega), by first | omega | (dsimp only; omega)⟩)
          | (with_reducible refine AR.wr ?_)
          | ((with_reducible intro w3 e3); try have z3 := cutLe e3)
          | ((with_reducible intro h3); have h4 := Nat.le_of_lt h3; clear h4)))
        conv => whnf
        refine LOOP.mk Nat (fun q => [(8, .v (.int .i64 q))]) (fun q wv => q ≤ L.length ∧ s4 ≤ wv.heap.size ∧ (∀ y ∈ L.drop q, gLt xs nm y = true) ∧ Own wv w.heap.size 9 1 (.slice a1 m1 c1) (L.map encS)) (fun q => q) L.length rfl ⟨?_, trivial⟩ ⟨Nat.le_refl _, hws, by rw [List.drop_length]; simp, hown⟩ ?_
        · simp [lk, Nat.beq]; omega
        clear hown oL
        rintro q wv - ⟨hq, hwv, hgr, hown⟩
        have oL := fun k h => hown.block (k := k) h
        dsimp only
        have hzz : ∃ z, 0 < q → L[q - 1]? = some z := by
          rcases Nat.eq_zero_or_pos q with h0 | h0
          · exact ⟨nm, fun h => by omega⟩
          · exact ⟨L[q - 1]'(by omega), fun _ => by simp⟩
        obtain ⟨z, hz1⟩ := hzz
        have hltz := gLt_iff xs nm z
        rcases htv with ⟨rfl, hb⟩ | ⟨rfl, hb⟩ | rfl
        all_goals
          repeat (any_goals (
            conv => whnf
            first
            | ((with_reducible refine BIF.dec (fun (hq0 : 0 < (q : Int)) => ?_) (fun hq0 => ?_)))
            | ((with_reducible refine OBL.mk ?_ (fun _ => ?_)); (have his2 := hown.row.1.isSome (by simp; omega)); exact ⟨by omega, by omega, his2⟩)
            | ((with_reducible refine ELD.atNow (enc := encS) (xs := L) (q - 1) hown.row.1 ?_ ?_ (fun x' hx' => ?_)); (focus omega); (focus omega); obtain rfl : z = x' := (by rw [hz1 (by omega)] at hx'; exact Option.some.inj hx'))
            | ((with_reducible refine callX (g := 47) ?_ ?_); kernel_rfl; intro hX; refine ⟨_, l26Sum_c _ _ _ xs _ _ (hr.ext hX (mAddr_Non _)) hn g1, ?_⟩; clear hX; intro w4 e4; have z4 := cutLe e4; replace hown := hown.e0 e4)
            | ((with_reducible refine BIF.dec (fun (hs1 : sumG z xs < sumG nm xs) => ?_) (fun hs1 => ?_)))
            | ((with_reducible refine BIF.beq (fun (hs2 : sumG z xs = sumG nm xs) => ?_) (fun hs2 => ?_)))
            | ((with_reducible refine BIF.s (fun (hs3 : Op.bytesLess nm.toList z.toList = true) => ?_) (fun hs3 => ?_)))
            | ((with_reducible refine BIF.not ?_))
            | ((with_reducible refine BIF.s ?_ ?_) <;> intro hb)
            | ((with_reducible refine BIF.dec ?_ ?_) <;> intro _)
            | ((with_reducible refine BIF.s ?_ ?_) <;> intro _)
            | (with_reducible refine NEXTK.normal ?_)
            | (with_reducible refine NEXTK.ret ?_)
            | (with_reducible refine NEXTK.exit ?_)
            | (with_reducible refine SEQ.plain ?_)
            | (with_reducible refine hK _ _ ?_)
            | ((with_reducible refine RUNL.agg (fun _ => ?_) ?_); (focus kernel_rfl))
            | (with_reducible refine RUNL.run ?_)
            | ((with_reducible refine AR.ok ?_ ?_); exact ⟨by first | omega | (dsimp only; omega), by first | omega | (dsimp only; omega)⟩)
            | (with_reducible refine AR.wr ?_)
            | ((with_reducible intro w3 e3); try have z3 := cutLe e3)
            | ((with_reducible intro h3); have h4 := Nat.le_of_lt h3; clear h4)))
        all_goals first
          | (refine ⟨q - 1, rfl, ⟨by simp [lk, Nat.beq]; omega, trivial⟩, rfl, rfl, ⟨by omega, by dsimp only; omega, ?_, hown⟩, by omega⟩
             intro u hu
             obtain ⟨i, hi⟩ := List.mem_iff_getElem?.1 hu
             rw [List.getElem?_drop] at hi
             rcases Nat.eq_zero_or_pos i with h0 | h0
             · subst h0
               rw [Nat.add_zero, hz1 (by omega)] at hi
               cases hi
               first
               | exact hltz.2 (.inl hs1)
               | exact hltz.2 (.inr ⟨hs2, hs3⟩)
             · exact hgr u (List.mem_iff_getElem?.2 ⟨i - 1, by rw [List.getElem?_drop, ← hi]; congr 1; omega⟩))
          | skip
        all_goals first
          | (have hmem : nm ∈ L := by
               obtain ⟨y, hy, hyn⟩ := List.any_eq_true.1 hb
               rw [of_decide_eq_true hyn]; exact hy
             have hst : insN (gLt xs) L nm = L := by unfold insN; rw [if_pos hmem]
             exact ⟨(k + 1, (a1, m1, c1)), rfl, ⟨rfl, rfl, trivial⟩, rfl, rfl, ⟨by simp only; omega, by dsimp only; omega, by simp only [hnext, hst]; exact hown⟩, by simp only; omega⟩)
          | skip
        all_goals
          have hlo : ∀ y, 0 < q → L[q - 1]? = some y → gLt xs nm y = false := by
            intro y h0 hy
            rw [hz1 h0] at hy
            cases hy
            cases hc : gLt xs nm z with
            | false => rfl
            | true =>
              exfalso
              rcases hltz.1 hc with h | ⟨h, h'⟩
              · first | omega | exact hs1 h
              · first | omega | exact hs2 h | (rw [hs3] at h'; cases h')
          have hnm2 : nm ∉ L := fun hin => by
            have : L.any (fun y => decide (nm = y)) = true := List.any_eq_true.2 ⟨nm, hin, by simp⟩
            rw [hb] at this; cases this
          have hst : insN (gLt xs) L nm = L.take q ++ nm :: L.drop q := by
            unfold insN
            rw [if_neg hnm2, insR_at (gLt xs) q hq hgr hlo]
          have oL2 := fun k h => hown.block (k := k) h
          obtain ⟨sV, hsV⟩ : ∃ sV, sV = wr.heap.size := ⟨_, rfl⟩
          repeat (any_goals (
            conv => whnf
            first
            | ((with_reducible intro w7 e7); have z7 := cutLe e7; replace hown := hown.e0 e7)
            | ((with_reducible refine DRAW.plan (id := 18) (.one 1 (.one 2 (.one 3 (.one 5 (.one 8 (.one 9 (.one 10 (.start (.alt 0 (.start (.alt 4 (.start (.alt 6 (.start (.alt 7 (.start (.alt 11 (.one 12 .done) .stop)) .stop)) .stop)) (.alt 6 (.start (.alt 4 (.start (.alt 7 (.start (.alt 11 (.one 12 .done) .stop)) .stop)) .stop)) .stop))) (.alt 6 (.start (.alt 0 (.start (.alt 4 (.start (.alt 7 (.start (.alt 11 (.one 12 .done) .stop)) .stop)) .stop)) .stop)) .stop)))))))))) ?_ ?_ ?_ ?_); kernel_rfl; kernel_rfl; kernel_rfl)
            | (with_reducible refine And.intro ?_ ?_)
            | (exact True.intro)
            | ((with_reducible refine bsS elemS [] rfl rfl (by simp) (by omega) (fun w9 e9 oC => ?_)); have z9 := cutLe e9; (try have apBC := oB.apart oC); replace hown := hown.e0 e9; (try replace oB := oB.e0 e9))
            | ((with_reducible refine bsS elemS [.string nm] ?_ ?_ ?_ ?_ ?_); (focus rfl); (focus rfl); (focus (intro v hv; simp at hv; subst hv; rfl)); (focus omega); intro w9 e9 oB; have z9 := cutLe e9; (try have apCB := oC.apart oB); replace hown := hown.e0 e9; (try replace oC := oC.e0 e9); (try replace o2 := o2.e0 e9))
            | ((with_reducible refine OBL.mk ?_ (fun _ => ?_)); (focus omega))
            | ((with_reducible refine apS (ns := (L.take q).map encS) elemS oC ?_ ?_ ?_ ?_ ?_ ?_ (fun v2 w2 x2 o2 => ?_)); (focus exact rowPreS hown.row.1 (by omega)); (focus (simp; omega)); (focus exact (by intro l hl; obtain ⟨x, -, rfl⟩ := List.mem_map.1 hl; rfl)); (focus exact ⟨by simp; omega, by simp; omega⟩); (focus exact ⟨(by show w.heap.size ≤ _; omega), by omega⟩); (focus exact trivial); have z2 := cutLe x2; (try replace oB := oB.past x2 (by first | exact apBC | exact ne_symm' apCB)); have oK := fun k h => oC.block (k := k) h; replace hown := hown.past x2 (fun k h1 h2 => by have := (oL2 k h1).2; have := (oK k h2).1; omega); clear oC; replace o2 : Own w2 s4 9 1 v2 ((L.take q).map encS) := (by simpa using o2.lo (by omega)); obtain ⟨b2, d2, rfl, q2, p2⟩ := o2.rowx)
            | ((with_reducible refine apS (ns := [encS nm]) elemS o2 ?_ ?_ ?_ ?_ ?_ ?_ (fun v5 w5 x5 o5 => ?_)); (focus exact oB.row.1); (focus rfl); (focus (intro l hl; simp at hl; subst hl; rfl)); (focus exact ⟨by simp; omega, by simp; omega⟩); (focus exact ⟨by show w.heap.size ≤ _; omega, by omega⟩); (focus exact trivial); have z5 := cutLe x5; have oK2 := fun k h => o2.block (k := k) h; replace hown := hown.past x5 (fun k h1 h2 => by have := (oW k h1); have := (oK2 k h2).1; omega); clear o2; replace o5 : Own w5 s4 9 1 v5 ((L.take q ++ [nm]).map encS) := (by simpa using o5); obtain ⟨b5, d5, rfl, q5, p5⟩ := o5.rowx)
            | ((with_reducible refine apS (ns := (L.drop q).map encS) elemS o5 ?_ ?_ ?_ ?_ ?_ ?_ (fun v6 w6 x6 o6 => ?_)); (focus exact rowSufS hown.row.1 (by omega)); (focus (first | (simp; done) | (simp; omega))); (focus exact (by intro l hl; obtain ⟨x, -, rfl⟩ := List.mem_map.1 hl; rfl)); (focus exact ⟨by simp; omega, by simp; omega⟩); (focus exact ⟨by show w.heap.size ≤ _; omega, by omega⟩); (focus exact trivial); have z6 := cutLe x6; clear o5; replace o6 : Own w6 s4 9 1 v6 ((L.take q ++ nm :: L.drop q).map encS) := (by simpa using o6); obtain ⟨b6, d6, rfl, q6, p6⟩ := o6.rowx)
            | ((with_reducible refine BIF.dec ?_ ?_) <;> intro _)
            | ((with_reducible refine BIF.s ?_ ?_) <;> intro _)
            | (with_reducible refine NEXTK.normal ?_)
            | (with_reducible refine NEXTK.ret ?_)
            | (with_reducible refine NEXTK.exit ?_)
            | (with_reducible refine SEQ.plain ?_)
            | (with_reducible refine hK _ _ ?_)
            | ((with_reducible refine RUNL.agg (fun _ => ?_) ?_); (focus kernel_rfl))
            | (with_reducible refine RUNL.run ?_)
            | ((with_reducible refine AR.ok ?_ ?_); exact ⟨by first | omega | (dsimp only; omega), by first | omega | (dsimp only; omega)⟩)
            | (with_reducible refine AR.wr ?_)
            | ((with_reducible intro w3 e3); try have z3 := cutLe e3)
            | ((with_reducible intro h3); have h4 := Nat.le_of_lt h3; clear h4)))
          all_goals
            replace o6 := o6.lo (lo' := w.heap.size) (by omega)
            exact ⟨(k + 1, (b6, _, d6)), rfl, ⟨rfl, rfl, trivial⟩, rfl, rfl, ⟨by simp only; omega, by show w.heap.size ≤ w6.heap.size; omega, by simp only [hnext, hst]; exact o6⟩, by simp only; omega⟩
    · have hkj : k = (giverL xs).length := by omega
      rw [hL, hkj, List.take_length] at hown
      repeat (any_goals (
        conv => whnf
        first
        | ((with_reducible refine BIF.dec ?_ ?_) <;> intro _)
        | ((with_reducible refine BIF.s ?_ ?_) <;> intro _)
        | (with_reducible refine NEXTK.normal ?_)
        | (with_reducible refine NEXTK.ret ?_)
        | (with_reducible refine NEXTK.exit ?_)
        | (with_reducible refine SEQ.plain ?_)
        | (with_reducible refine hK _ _ ?_)
        | ((with_reducible refine RUNL.agg (fun _ => ?_) ?_); (focus kernel_rfl))
        | (with_reducible refine RUNL.run ?_)
        | ((with_reducible refine AR.ok ?_ ?_); exact ⟨by first | omega | (dsimp only; omega), by first | omega | (dsimp only; omega)⟩)
        | (with_reducible refine AR.wr ?_)
        | ((with_reducible intro w3 e3); try have z3 := cutLe e3)
        | ((with_reducible intro h3); have h4 := Nat.le_of_lt h3; clear h4)))
      intro hx'
      rw [hf]
      exact ⟨_, rfl, hx', _, rfl, hown⟩

end Go.Proofs.YtohnoccmaeegdaaGreatDoor

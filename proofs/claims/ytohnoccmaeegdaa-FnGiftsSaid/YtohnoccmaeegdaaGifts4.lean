/- TakeGift. -/
import Derived.Test.YtohnoccmaeegdaaRows
import Derived.Test.YtohnoccmaeegdaaGifts3
namespace Go.Proofs.Ytohnoccmaeegdaa
open Go Go.X Go.Proofs Go.ChangeShapes Go.WideShapes Go.ChangeAt Go.RowKit
open Go.ChangeMaps (open_string shut_string)
set_option maxHeartbeats 1000000
set_option maxRecDepth 20000
set_option linter.unusedVariables false
set_option linter.unusedSimpArgs false
theorem CloneGft_c (a : Option Addr) (n c : Nat) (xs : List Gft) (w : World) (hr : Row w a 5 (xs.map encGft)) (hn : xs.length = n) (hm : n ≤ 1048577) :
    Calls Try.prog 39 #[.slice a n c] w fun e w' => ∃ r, e = .returned r ∧ E0 w w' ∧ Own w' w.heap.size 63 5 r (xs.map encGft) := by
  refine enterK Non 8 Try.func39 rfl rfl rfl fun K hK => ?_
  repeat (any_goals (
    conv => whnf
    first
    | ((with_reducible refine BIF.dec ?_ ?_) <;> intro _)
    | ((with_reducible refine BIF.s ?_ ?_) <;> intro _)
    | (with_reducible refine NEXTK.normal ?_)
    | (with_reducible refine NEXTK.ret ?_)
    | (with_reducible refine NEXTK.exit ?_)
    | (with_reducible refine SEQ.plain ?_)
    | (with_reducible refine hK _ _ ?_)
    | ((with_reducible refine RUNL.agg (fun _ => ?_) ?_); (focus kernel_rfl))
    | (with_reducible refine RUNL.run ?_)
    | ((with_reducible refine AR.ok ?_ ?_); exact ⟨by first | omega | (dsimp only; omega), by first | omega | (dsimp only; omega)⟩)
    | (with_reducible refine AR.wr ?_)
    | ((with_reducible intro w3 e3); try have z3 := cutLe e3)
    | ((with_reducible intro h3); have h4 := Nat.le_of_lt h3; clear h4)))
  · intro hx
    rename_i h
    have : xs = [] := by
      cases a with
      | none =>
        cases xs with
        | nil => rfl
        | cons x r => exact absurd (hr.isSome (by simp)) (by simp)
      | some p => simp at h
    subst this
    exact ⟨_, rfl, hx, Own.nil _ _ _ _⟩
  · refine bsS elemGft [] rfl rfl (by simp) (by omega) (fun w1 e1 o1 => ?_)
    conv => whnf
    repeat (first | ((with_reducible refine NEXTK.normal ?_); conv => whnf) | ((with_reducible refine NEXTK.exit ?_); conv => whnf) | ((with_reducible refine NEXTK.ret ?_); conv => whnf) | ((with_reducible refine SEQ.plain ?_); conv => whnf) | ((with_reducible refine AR.ok ?_ ?_); exact ⟨by omega, by omega⟩; conv => whnf))
    refine apS elemGft o1 (hr.e0 e1) (by simpa using hn) (by intro l hl; obtain ⟨x, -, rfl⟩ := List.mem_map.1 hl; rfl) ⟨by simp; omega, by simp; omega⟩ ⟨Nat.le_refl _, e1.size⟩ trivial (fun v2 w2 x2 o2 => ?_)
    replace o2 : Own w2 w.heap.size 63 5 v2 (xs.map encGft) := by simpa using o2
    obtain ⟨b2, d2, rfl, q2, p2⟩ := o2.rowx
    repeat (any_goals (
      conv => whnf
      first
      | ((with_reducible refine BIF.dec ?_ ?_) <;> intro _)
      | ((with_reducible refine BIF.s ?_ ?_) <;> intro _)
      | (with_reducible refine NEXTK.normal ?_)
      | (with_reducible refine NEXTK.ret ?_)
      | (with_reducible refine NEXTK.exit ?_)
      | (with_reducible refine SEQ.plain ?_)
      | (with_reducible refine hK _ _ ?_)
      | ((with_reducible refine RUNL.agg (fun _ => ?_) ?_); (focus kernel_rfl))
      | (with_reducible refine RUNL.run ?_)
      | ((with_reducible refine AR.ok ?_ ?_); exact ⟨by first | omega | (dsimp only; omega), by first | omega | (dsimp only; omega)⟩)
      | (with_reducible refine AR.wr ?_)
      | ((with_reducible intro w3 e3); try have z3 := cutLe e3)
      | ((with_reducible intro h3); have h4 := Nat.le_of_lt h3; clear h4)))
    intro hx
    exact ⟨_, rfl, hx, o2⟩
def nextId (xs : List Gft) : Int :=
  match xs.getLast? with
  | some y => y.fId + 1
  | none => 1
theorem nextId_at {xs : List Gft} {k : Nat} {y : Gft} (hy : xs[k]? = some y) (hk : k + 1 = xs.length) : nextId xs = y.fId + 1 := by
  unfold nextId
  rw [List.getLast?_eq_getElem?, show xs.length - 1 = k from by omega, hy]
def newO (xs : List Gft) (r : ByteArray) (p d : Int) : Gft := ⟨nextId xs, r, p, d, -1⟩
def takeP (xs : List Gft) (r : ByteArray) (p d : Int) : List Gft × Int × Bool :=
  if areG xs && areG (xs ++ [newO xs r p d]) then (xs ++ [newO xs r p d], nextId xs, true) else ([], 0, false)
theorem takeP_len (xs : List Gft) (r : ByteArray) (p d : Int) : (takeP xs r p d).1.length ≤ xs.length + 1 := by
  unfold takeP
  split <;> simp
theorem TakeGift_c (a : Option Addr) (n c : Nat) (xs : List Gft) (r : ByteArray) (p d : Int) (w : World) (hr : Row w a 5 (xs.map encGft)) (hn : xs.length = n) (hm : n ≤ 1048577) :
    Calls Try.prog 7 #[.slice a n c, .string r, .int .i64 p, .int .i64 d] w fun e w' => ∃ v, e = .returned v ∧ E0 w w' ∧ ∃ s, v = .tuple #[s, .int .i64 (takeP xs r p d).2.1, .bool (takeP xs r p d).2.2] ∧ Own w' w.heap.size 63 5 s ((takeP xs r p d).1.map encGft) := by
  refine enterK Non 43 Try.func7 rfl rfl rfl fun K hK => ?_
  cases ho : areG xs with
  | false =>
    have hf : takeP xs r p d = ([], 0, false) := by simp [takeP, ho]
    repeat (any_goals (
      conv => whnf
      first
      | ((with_reducible refine callF (g := 22) ?_ ?_); kernel_rfl; refine ⟨_, AreGifts_c _ _ _ xs _ (by repeat (first | assumption | refine Row.e0 ?_ (by assumption))) hn (by omega), ?_⟩; intro w4 e4; have z4 := cutLe e4)
      | ((with_reducible refine BIF.s (fun h => absurd h ?_) (fun _ => ?_)); focus (first | (simp; done) | (simp; omega)))
      | ((with_reducible refine BIF.s (fun _ => ?_) (fun h => absurd h ?_)); rotate_left; focus (first | (simp; done) | (simp; omega)))
      | ((with_reducible refine BIF.dec ?_ ?_) <;> intro _)
      | ((with_reducible refine BIF.s ?_ ?_) <;> intro _)
      | (with_reducible refine NEXTK.normal ?_)
      | (with_reducible refine NEXTK.ret ?_)
      | (with_reducible refine NEXTK.exit ?_)
      | (with_reducible refine SEQ.plain ?_)
      | (with_reducible refine hK _ _ ?_)
      | ((with_reducible refine RUNL.agg (fun _ => ?_) ?_); (focus kernel_rfl))
      | (with_reducible refine RUNL.run ?_)
      | ((with_reducible refine AR.ok ?_ ?_); exact ⟨by first | omega | (dsimp only; omega), by first | omega | (dsimp only; omega)⟩)
      | (with_reducible refine AR.wr ?_)
      | ((with_reducible intro w3 e3); try have z3 := cutLe e3)
      | ((with_reducible intro h3); have h4 := Nat.le_of_lt h3; clear h4)))
    intro hx'
    rw [hf]
    exact ⟨_, rfl, hx', _, rfl, Own.nil _ _ _ _⟩
  | true =>
    have hl := areG_len ho
    obtain ⟨y, k, hy, hk⟩ : ∃ (y : Gft) (k : Nat), (n = 0 ∨ xs[k]? = some y) ∧ (n = 0 ∨ k + 1 = n) := by
      rcases Nat.eq_zero_or_pos n with h | h
      · exact ⟨default, 0, .inl h, .inl h⟩
      · exact ⟨xs[n - 1], n - 1, .inr (by simp), .inr (by omega)⟩
    rcases Nat.eq_zero_or_pos n with h0 | h0
    · have hid : nextId xs = 1 := by
        have : xs = [] := List.eq_nil_of_length_eq_zero (by omega)
        subst this; rfl
      repeat (any_goals (
        conv => whnf
        first
        | ((with_reducible refine callF (g := 22) ?_ ?_); kernel_rfl; refine ⟨_, AreGifts_c _ _ _ xs _ (by repeat (first | assumption | refine Row.e0 ?_ (by assumption))) hn (by omega), ?_⟩; intro w4 e4; have z4 := cutLe e4)
        | ((with_reducible refine BIF.s (fun h => absurd h ?_) (fun _ => ?_)); focus (first | (simp; done) | (simp; omega)))
        | ((with_reducible refine BIF.s (fun _ => ?_) (fun h => absurd h ?_)); rotate_left; focus (first | (simp; done) | (simp; omega)))
        | ((exfalso; omega))
        | ((with_reducible refine DRAW.plan (id := 6) (.one 0 (.start (.alt 1 (.start (.alt 2 (.start (.alt 3 (.start (.alt 4 (.one 5 .done) .stop)) .stop)) .stop)) (.alt 2 (.start (.alt 1 (.start (.alt 3 (.start (.alt 4 (.one 5 .done) .stop)) .stop)) (.alt 3 (.start (.alt 1 (.start (.alt 4 (.one 5 .done) .stop)) .stop)) .stop))) .stop)))) ?_ ?_ ?_ ?_); kernel_rfl; kernel_rfl; kernel_rfl)
        | (with_reducible refine And.intro ?_ ?_)
        | (exact True.intro)
        | ((with_reducible refine RUN.mk (v := .agg (encGft ⟨1, r, p, d, -1⟩).toArray) (fun _ => ?_) ?_); (focus kernel_rfl))
        | ((with_reducible refine callY (g := 39) ?_ ?_); kernel_rfl; refine ⟨_, fun x => CloneGft_c _ _ _ xs _ (hr.ext x (mAddr_Non _)) hn (by omega), ?_⟩; intro r5 w5 e5 oC; have z5 := cutLe e5; have oL := fun k h => oC.block (k := k) h; obtain ⟨b5, d5, rfl, q5, p5⟩ := oC.rowx; replace oC := oC.lo (lo' := w.heap.size) (by omega); try replace oB := oB.e0 e5)
        | ((with_reducible refine bsS elemGft [.agg (encGft ⟨1, r, p, d, -1⟩).toArray] ?_ ?_ ?_ ?_ ?_); (focus rfl); (focus rfl); (focus (intro v hv; simp at hv; subst hv; rfl)); (focus omega); intro w9 e9 oB; have z9 := cutLe e9; (try replace oC := oC.e0 e9))
        | ((with_reducible refine BIF.dec ?_ ?_) <;> intro _)
        | ((with_reducible refine BIF.s ?_ ?_) <;> intro _)
        | (with_reducible refine NEXTK.normal ?_)
        | (with_reducible refine NEXTK.ret ?_)
        | (with_reducible refine NEXTK.exit ?_)
        | (with_reducible refine SEQ.plain ?_)
        | (with_reducible refine hK _ _ ?_)
        | ((with_reducible refine RUNL.agg (fun _ => ?_) ?_); (focus kernel_rfl))
        | (with_reducible refine RUNL.run ?_)
        | ((with_reducible refine AR.ok ?_ ?_); exact ⟨by first | omega | (dsimp only; omega), by first | omega | (dsimp only; omega)⟩)
        | (with_reducible refine AR.wr ?_)
        | ((with_reducible intro w3 e3); try have z3 := cutLe e3)
        | ((with_reducible intro h3); have h4 := Nat.le_of_lt h3; clear h4)))
      all_goals
        conv => whnf
        refine apS (ns := [encGft ⟨1, r, p, d, -1⟩]) elemGft oC oB.row.1 rfl (by intro l hl; simp at hl; subst hl; rfl) ⟨by simp; omega, by simp; omega⟩ ⟨(by show w.heap.size ≤ _; omega), by omega⟩ ⟨fun h => by have := (oL _ h).1; dsimp only at this; omega, trivial⟩ (fun v2 w2 x2 o2 => ?_)
        have z2 := cutLe x2
        have hno : newO xs r p d = ⟨1, r, p, d, -1⟩ := by simp [newO, hid]
        obtain ⟨ys, hys⟩ : ∃ ys, ys = xs ++ [newO xs r p d] := ⟨_, rfl⟩
        replace o2 : Own w2 w.heap.size 63 5 v2 (ys.map encGft) := by rw [hys, hno]; simpa using o2
        have hyl : ys.length = n + 1 := by rw [hys]; simp; omega
        obtain ⟨b2, d2, rfl, q2, p2⟩ := o2.rowx
        repeat (any_goals (
          conv => whnf
          first
          | ((with_reducible refine callF (g := 22) ?_ ?_); kernel_rfl; refine ⟨_, AreGifts_c _ _ _ ys _ (by repeat (first | assumption | refine Row.e0 ?_ (by assumption))) rfl (by omega), ?_⟩; intro w4 e4; have z4 := cutLe e4)
          | ((with_reducible refine DRAW.plan (id := 9) (.one 0 (.one 1 (.one 3 (.start (.alt 2 (.one 4 (.one 5 .done)) .stop))))) ?_ ?_ ?_ ?_); kernel_rfl; kernel_rfl; kernel_rfl)
          | (with_reducible refine And.intro ?_ ?_)
          | (exact True.intro)
          | ((with_reducible refine BIF.dec ?_ ?_) <;> intro _)
          | ((with_reducible refine BIF.s ?_ ?_) <;> intro _)
          | (with_reducible refine NEXTK.normal ?_)
          | (with_reducible refine NEXTK.ret ?_)
          | (with_reducible refine NEXTK.exit ?_)
          | (with_reducible refine SEQ.plain ?_)
          | (with_reducible refine hK _ _ ?_)
          | ((with_reducible refine RUNL.agg (fun _ => ?_) ?_); (focus kernel_rfl))
          | (with_reducible refine RUNL.run ?_)
          | ((with_reducible refine AR.ok ?_ ?_); exact ⟨by first | omega | (dsimp only; omega), by first | omega | (dsimp only; omega)⟩)
          | (with_reducible refine AR.wr ?_)
          | ((with_reducible intro w3 e3); try have z3 := cutLe e3)
          | ((with_reducible intro h3); have h4 := Nat.le_of_lt h3; clear h4)))
        all_goals
          intro hx'
          first
          | (have hf : takeP xs r p d = ([], 0, false) := by simp_all [takeP]
             rw [hf]; exact ⟨_, rfl, hx', _, rfl, Own.nil _ _ _ _⟩)
          | (have hf : takeP xs r p d = (ys, 1, true) := by simp_all [takeP]
             rw [hf]; exact ⟨_, rfl, hx', _, rfl, (by clear hx'; repeat (first | exact o2 | exact o2.lo (by omega) | refine Own.e0 ?_ (by assumption)))⟩)
    · obtain ⟨hy, hk⟩ : xs[k]? = some y ∧ k + 1 = n := ⟨by rcases hy with h | h <;> first | exact h | omega, by omega⟩
      have hid := nextId_at hy (by omega)
      have hy2 := okG_spec (areG_ok ho y (List.mem_of_getElem? hy))
      have his := hr.isSome (by simp; omega)
      have hkl : k < xs.length := by omega
      repeat (any_goals (
        conv => whnf
        first
        | ((with_reducible refine callF (g := 22) ?_ ?_); kernel_rfl; refine ⟨_, AreGifts_c _ _ _ xs _ (by repeat (first | assumption | refine Row.e0 ?_ (by assumption))) hn (by omega), ?_⟩; intro w4 e4; have z4 := cutLe e4)
        | ((with_reducible refine BIF.s (fun h => absurd h ?_) (fun _ => ?_)); focus (first | (simp; done) | (simp; omega)))
        | ((with_reducible refine BIF.s (fun _ => ?_) (fun h => absurd h ?_)); rotate_left; focus (first | (simp; done) | (simp; omega)))
        | ((exfalso; omega))
        | ((with_reducible refine DRAW.plan (id := 6) (.one 0 (.start (.alt 1 (.start (.alt 2 (.start (.alt 3 (.start (.alt 4 (.one 5 .done) .stop)) .stop)) .stop)) (.alt 2 (.start (.alt 1 (.start (.alt 3 (.start (.alt 4 (.one 5 .done) .stop)) .stop)) (.alt 3 (.start (.alt 1 (.start (.alt 4 (.one 5 .done) .stop)) .stop)) .stop))) .stop)))) ?_ ?_ ?_ ?_); kernel_rfl; kernel_rfl; kernel_rfl)
        | (with_reducible refine And.intro ?_ ?_)
        | (exact True.intro)
        | ((with_reducible refine OBL.mk ?_ (fun _ => ?_)); exact ⟨by first | omega | (dsimp only; omega), by first | omega | (dsimp only; omega), his⟩)
        | ((with_reducible refine ELD.at (k) hr ?_ ?_ ?_ (fun x' hx' => ?_)); exact mAddr_Non _; (first | rfl | omega); exact hkl; obtain rfl : y = x' := by (rw [hy] at hx'; exact Option.some.inj hx'))
        | ((with_reducible refine RUN.mk (v := .agg (encGft ⟨1, r, p, d, -1⟩).toArray) (fun _ => ?_) ?_); (focus kernel_rfl))
        | ((with_reducible refine callY (g := 39) ?_ ?_); kernel_rfl; refine ⟨_, fun x => CloneGft_c _ _ _ xs _ (hr.ext x (mAddr_Non _)) hn (by omega), ?_⟩; intro r5 w5 e5 oC; have z5 := cutLe e5; have oL := fun k h => oC.block (k := k) h; obtain ⟨b5, d5, rfl, q5, p5⟩ := oC.rowx; replace oC := oC.lo (lo' := w.heap.size) (by omega); try replace oB := oB.e0 e5)
        | ((with_reducible refine bsS elemGft [.agg (encGft ⟨y.fId + 1, r, p, d, -1⟩).toArray] ?_ ?_ ?_ ?_ ?_); (focus rfl); (focus rfl); (focus (intro v hv; simp at hv; subst hv; rfl)); (focus omega); intro w9 e9 oB; have z9 := cutLe e9; (try replace oC := oC.e0 e9))
        | ((with_reducible refine BIF.dec ?_ ?_) <;> intro _)
        | ((with_reducible refine BIF.s ?_ ?_) <;> intro _)
        | (with_reducible refine NEXTK.normal ?_)
        | (with_reducible refine NEXTK.ret ?_)
        | (with_reducible refine NEXTK.exit ?_)
        | (with_reducible refine SEQ.plain ?_)
        | (with_reducible refine hK _ _ ?_)
        | ((with_reducible refine RUNL.agg (fun _ => ?_) ?_); (focus kernel_rfl))
        | (with_reducible refine RUNL.run ?_)
        | ((with_reducible refine AR.ok ?_ ?_); exact ⟨by first | omega | (dsimp only; omega), by first | omega | (dsimp only; omega)⟩)
        | (with_reducible refine AR.wr ?_)
        | ((with_reducible intro w3 e3); try have z3 := cutLe e3)
        | ((with_reducible intro h3); have h4 := Nat.le_of_lt h3; clear h4)))
      all_goals
        conv => whnf
        refine apS (ns := [encGft ⟨y.fId + 1, r, p, d, -1⟩]) elemGft oC oB.row.1 rfl (by intro l hl; simp at hl; subst hl; rfl) ⟨by simp; omega, by simp; omega⟩ ⟨(by show w.heap.size ≤ _; omega), by omega⟩ ⟨fun h => by have := (oL _ h).1; dsimp only at this; omega, trivial⟩ (fun v2 w2 x2 o2 => ?_)
        have z2 := cutLe x2
        have hno : newO xs r p d = ⟨y.fId + 1, r, p, d, -1⟩ := by simp [newO, hid]
        obtain ⟨ys, hys⟩ : ∃ ys, ys = xs ++ [newO xs r p d] := ⟨_, rfl⟩
        replace o2 : Own w2 w.heap.size 63 5 v2 (ys.map encGft) := by rw [hys, hno]; simpa using o2
        have hyl : ys.length = n + 1 := by rw [hys]; simp; omega
        obtain ⟨b2, d2, rfl, q2, p2⟩ := o2.rowx
        repeat (any_goals (
          conv => whnf
          first
          | ((with_reducible refine callF (g := 22) ?_ ?_); kernel_rfl; refine ⟨_, AreGifts_c _ _ _ ys _ (by repeat (first | assumption | refine Row.e0 ?_ (by assumption))) rfl (by omega), ?_⟩; intro w4 e4; have z4 := cutLe e4)
          | ((with_reducible refine DRAW.plan (id := 9) (.one 0 (.one 1 (.one 3 (.start (.alt 2 (.one 4 (.one 5 .done)) .stop))))) ?_ ?_ ?_ ?_); kernel_rfl; kernel_rfl; kernel_rfl)
          | (with_reducible refine And.intro ?_ ?_)
          | (exact True.intro)
          | ((with_reducible refine BIF.dec ?_ ?_) <;> intro _)
          | ((with_reducible refine BIF.s ?_ ?_) <;> intro _)
          | (with_reducible refine NEXTK.normal ?_)
          | (with_reducible refine NEXTK.ret ?_)
          | (with_reducible refine NEXTK.exit ?_)
          | (with_reducible refine SEQ.plain ?_)
          | (with_reducible refine hK _ _ ?_)
          | ((with_reducible refine RUNL.agg (fun _ => ?_) ?_); (focus kernel_rfl))
          | (with_reducible refine RUNL.run ?_)
          | ((with_reducible refine AR.ok ?_ ?_); exact ⟨by first | omega | (dsimp only; omega), by first | omega | (dsimp only; omega)⟩)
          | (with_reducible refine AR.wr ?_)
          | ((with_reducible intro w3 e3); try have z3 := cutLe e3)
          | ((with_reducible intro h3); have h4 := Nat.le_of_lt h3; clear h4)))
        all_goals
          intro hx'
          first
          | (have hf : takeP xs r p d = ([], 0, false) := by simp_all [takeP]
             rw [hf]; exact ⟨_, rfl, hx', _, rfl, Own.nil _ _ _ _⟩)
          | (have hf : takeP xs r p d = (ys, y.fId + 1, true) := by simp_all [takeP]
             rw [hf]; exact ⟨_, rfl, hx', _, rfl, (by clear hx'; repeat (first | exact o2 | exact o2.lo (by omega) | refine Own.e0 ?_ (by assumption)))⟩)
theorem TakeGiftS_c (a : Option Addr) (n c : Nat) (xs : List Gft) (r : ByteArray) (p d : Int) (w : World) (hr : Row w a 5 (xs.map encGft)) (hn : xs.length = n) (hm : n ≤ 1048577) (hg : ∀ x ∈ xs, x.fGiver.size ≤ 9223372036854775807) (hrs : r.size ≤ 9223372036854775807) :
    Calls Try.prog 8 #[.slice a n c, .string r, .int .i64 p, .int .i64 d] w fun e w' => ∃ v, e = .returned v ∧ E0 w w' ∧ ∃ s, v = .tuple #[s, .int .i64 (takeP xs r p d).2.1, .bool (takeP xs r p d).2.2] ∧ Own w' w.heap.size 63 5 s ((takeP xs r p d).1.map encGft) := by
  refine enterK Non 46 Try.func8 rfl rfl rfl fun K hK => ?_
  rcases Nat.eq_zero_or_pos n with h0 | h0
  · have hxs : xs = [] := List.eq_nil_of_length_eq_zero (by omega)
    have hid : nextId xs = 1 := by
      subst hxs; rfl
    repeat (any_goals (
      conv => whnf
      first
      | ((exfalso; omega))
      | ((with_reducible refine BIF.dec ?_ ?_) <;> intro _)
      | ((with_reducible refine BIF.s ?_ ?_) <;> intro _)
      | (with_reducible refine NEXTK.normal ?_)
      | (with_reducible refine NEXTK.ret ?_)
      | (with_reducible refine NEXTK.exit ?_)
      | (with_reducible refine SEQ.plain ?_)
      | (with_reducible refine hK _ _ ?_)
      | ((with_reducible refine RUNL.agg (fun _ => ?_) ?_); (focus kernel_rfl))
      | (with_reducible refine RUNL.run ?_)
      | ((with_reducible refine AR.ok ?_ ?_); exact ⟨by first | omega | (dsimp only; omega), by first | omega | (dsimp only; omega)⟩)
      | (with_reducible refine AR.wr ?_)
      | ((with_reducible intro w3 e3); try have z3 := cutLe e3)
      | ((with_reducible intro h3); have h4 := Nat.le_of_lt h3; clear h4)))
    refine bsS elemGft [] rfl rfl (by simp) (by omega) (fun w1 e1 oC => ?_)
    have z1 := cutLe e1
    conv => whnf
    repeat (first | ((with_reducible refine NEXTK.normal ?_); conv => whnf) | ((with_reducible refine NEXTK.exit ?_); conv => whnf) | ((with_reducible refine NEXTK.ret ?_); conv => whnf) | ((with_reducible refine SEQ.plain ?_); conv => whnf) | ((with_reducible refine AR.ok ?_ ?_); exact ⟨by omega, by omega⟩; conv => whnf))
    refine apS (ns := xs.map encGft) elemGft oC (by repeat (first | assumption | refine Row.e0 ?_ (by assumption))) (by simpa using hn) (by intro l hl; obtain ⟨x, -, rfl⟩ := List.mem_map.1 hl; rfl) ⟨by simp; omega, by simp; omega⟩ ⟨(by show w.heap.size ≤ _; omega), by omega⟩ trivial (fun v2 w2 x2 oD => ?_)
    have z2 := cutLe x2
    have f2 := oC.fresh (n := w.heap.size) (by omega)
    clear oC
    replace oD : Own w2 w.heap.size 63 5 v2 (xs.map encGft) := by simpa using oD
    obtain ⟨b2, d2, rfl, q2, p2⟩ := oD.rowx
    have oC := oD
    repeat (any_goals (
      conv => whnf
      first
      | ((with_reducible refine RUN.mk (v := .agg (encGft ⟨1, r, p, d, -1⟩).toArray) (fun _ => ?_) ?_); (focus kernel_rfl))
      | ((with_reducible refine bsS elemGft [.agg (encGft ⟨1, r, p, d, -1⟩).toArray] ?_ ?_ ?_ ?_ ?_); (focus rfl); (focus rfl); (focus (intro v hv; simp at hv; subst hv; rfl)); (focus omega); intro w9 e9 oB; have z9 := cutLe e9; (try replace oC := oC.e0 e9))
      | ((with_reducible refine BIF.dec ?_ ?_) <;> intro _)
      | ((with_reducible refine BIF.s ?_ ?_) <;> intro _)
      | (with_reducible refine NEXTK.normal ?_)
      | (with_reducible refine NEXTK.ret ?_)
      | (with_reducible refine NEXTK.exit ?_)
      | (with_reducible refine SEQ.plain ?_)
      | (with_reducible refine hK _ _ ?_)
      | ((with_reducible refine RUNL.agg (fun _ => ?_) ?_); (focus kernel_rfl))
      | (with_reducible refine RUNL.run ?_)
      | ((with_reducible refine AR.ok ?_ ?_); exact ⟨by first | omega | (dsimp only; omega), by first | omega | (dsimp only; omega)⟩)
      | (with_reducible refine AR.wr ?_)
      | ((with_reducible intro w3 e3); try have z3 := cutLe e3)
      | ((with_reducible intro h3); have h4 := Nat.le_of_lt h3; clear h4)))
    conv => whnf
    refine apS (ns := [encGft ⟨1, r, p, d, -1⟩]) elemGft oC oB.row.1 rfl (by intro l hl; simp at hl; subst hl; rfl) ⟨by simp; omega, by simp; omega⟩ ⟨(by show w.heap.size ≤ _; omega), by omega⟩ trivial (fun v3 w3 x3 o3 => ?_)
    have z3 := cutLe x3
    obtain ⟨ys, hys⟩ : ∃ ys, ys = xs ++ [(⟨1, r, p, d, -1⟩ : Gft)] := ⟨_, rfl⟩
    replace o3 : Own w3 w.heap.size 63 5 v3 (ys.map encGft) := by rw [hys]; simpa using o3
    have hgy : ∀ x ∈ ys, x.fGiver.size ≤ 9223372036854775807 := by
      rw [hys]; intro x hx
      rcases List.mem_append.1 hx with h | h
      · exact hg x h
      · simp at h; subst h; exact hrs
    have hyl : ys.length = n + 1 := by rw [hys]; simp; omega
    obtain ⟨b3, d3, rfl, q3, p3⟩ := o3.rowx
    have hra : Row w3 a 5 (xs.map encGft) := by
      have h9 : Row w9 a 5 (xs.map encGft) := by
        have h2 : Row w2 a 5 (xs.map encGft) := Row.past (w := w) hr ((by repeat (first | assumption | refine Row.e0 ?_ (by assumption))) : Row w1 a 5 (xs.map encGft)) x2 (fun b hb h => f2 b hb h)
        exact h2.e0 e9
      exact Row.past (w := w) hr h9 x3 (fun b hb h => oC.fresh (Nat.le_refl _) b hb h)
    repeat (any_goals (
      conv => whnf
      first
      | ((with_reducible refine callF (g := 40) ?_ ?_); kernel_rfl; refine ⟨_, l26Good_c _ _ _ ys _ (by repeat (first | assumption | refine Row.e0 ?_ (by assumption))) rfl (by omega) hgy, ?_⟩; intro w4 e4; have z4 := cutLe e4)
      | ((with_reducible refine callF (g := 40) ?_ ?_); kernel_rfl; refine ⟨_, l26Good_c _ _ _ xs _ (by repeat (first | assumption | refine Row.e0 ?_ (by assumption))) hn (by omega) hg, ?_⟩; intro w4 e4; have z4 := cutLe e4)
      | ((with_reducible refine bsS elemGft [] rfl rfl (by simp) (by omega) (fun w9 e9 o9 => ?_)); have z9 := cutLe e9)
      | ((with_reducible refine BIF.dec ?_ ?_) <;> intro _)
      | ((with_reducible refine BIF.s ?_ ?_) <;> intro _)
      | (with_reducible refine NEXTK.normal ?_)
      | (with_reducible refine NEXTK.ret ?_)
      | (with_reducible refine NEXTK.exit ?_)
      | (with_reducible refine SEQ.plain ?_)
      | (with_reducible refine hK _ _ ?_)
      | ((with_reducible refine RUNL.agg (fun _ => ?_) ?_); (focus kernel_rfl))
      | (with_reducible refine RUNL.run ?_)
      | ((with_reducible refine AR.ok ?_ ?_); exact ⟨by first | omega | (dsimp only; omega), by first | omega | (dsimp only; omega)⟩)
      | (with_reducible refine AR.wr ?_)
      | ((with_reducible intro w3 e3); try have z3 := cutLe e3)
      | ((with_reducible intro h3); have h4 := Nat.le_of_lt h3; clear h4)))
    all_goals
      intro hx'
      first
      | (have hf : takeP xs r p d = ([], 0, false) := by simp_all [takeP, newO]
         rw [hf]; exact ⟨_, rfl, hx', _, rfl, (by clear hx'; repeat (first | exact o9 | exact o9.lo (by omega) | refine Own.e0 ?_ (by assumption)))⟩)
      | (have hf : takeP xs r p d = (ys, 1, true) := by simp_all [takeP, newO]
         rw [hf]; exact ⟨_, rfl, hx', _, rfl, (by clear hx'; repeat (first | exact o3 | exact o3.lo (by omega) | refine Own.e0 ?_ (by assumption)))⟩)
  · obtain ⟨y, k, hy, hk⟩ : ∃ (y : Gft) (k : Nat), xs[k]? = some y ∧ k + 1 = n := ⟨xs[n - 1], n - 1, by simp, by omega⟩
    have hid := nextId_at hy (by omega)
    have his := hr.isSome (by simp; omega)
    have hkl : k < xs.length := by omega
    obtain ⟨z, hz⟩ : ∃ z, z = IntKind.i64.wrap (y.fId + 1) := ⟨_, rfl⟩
    have hzz : areG xs = true → z = y.fId + 1 := fun ho => by
      have hy2 := okG_spec (areG_ok ho y (List.mem_of_getElem? hy))
      rw [hz, wrap64_in (by omega) (by omega)]
    repeat (any_goals (
      conv => whnf
      first
      | ((exfalso; omega))
      | ((with_reducible refine AR.gen hz.symm ?_))
      | ((with_reducible refine OBL.mk ?_ (fun _ => ?_)); exact ⟨by first | omega | (dsimp only; omega), by first | omega | (dsimp only; omega), his⟩)
      | ((with_reducible refine ELD.at (k) hr ?_ ?_ ?_ (fun x' hx' => ?_)); exact mAddr_Non _; (first | rfl | omega); exact hkl; obtain rfl : y = x' := by (rw [hy] at hx'; exact Option.some.inj hx'))
      | ((with_reducible refine BIF.dec ?_ ?_) <;> intro _)
      | ((with_reducible refine BIF.s ?_ ?_) <;> intro _)
      | (with_reducible refine NEXTK.normal ?_)
      | (with_reducible refine NEXTK.ret ?_)
      | (with_reducible refine NEXTK.exit ?_)
      | (with_reducible refine SEQ.plain ?_)
      | (with_reducible refine hK _ _ ?_)
      | ((with_reducible refine RUNL.agg (fun _ => ?_) ?_); (focus kernel_rfl))
      | (with_reducible refine RUNL.run ?_)
      | ((with_reducible refine AR.ok ?_ ?_); exact ⟨by first | omega | (dsimp only; omega), by first | omega | (dsimp only; omega)⟩)
      | (with_reducible refine AR.wr ?_)
      | ((with_reducible intro w3 e3); try have z3 := cutLe e3)
      | ((with_reducible intro h3); have h4 := Nat.le_of_lt h3; clear h4)))
    refine bsS elemGft [] rfl rfl (by simp) (by omega) (fun w1 e1 oC => ?_)
    have z1 := cutLe e1
    conv => whnf
    repeat (first | ((with_reducible refine NEXTK.normal ?_); conv => whnf) | ((with_reducible refine NEXTK.exit ?_); conv => whnf) | ((with_reducible refine NEXTK.ret ?_); conv => whnf) | ((with_reducible refine SEQ.plain ?_); conv => whnf) | ((with_reducible refine AR.ok ?_ ?_); exact ⟨by omega, by omega⟩; conv => whnf))
    refine apS (ns := xs.map encGft) elemGft oC (by repeat (first | assumption | refine Row.e0 ?_ (by assumption))) (by simpa using hn) (by intro l hl; obtain ⟨x, -, rfl⟩ := List.mem_map.1 hl; rfl) ⟨by simp; omega, by simp; omega⟩ ⟨(by show w.heap.size ≤ _; omega), by omega⟩ trivial (fun v2 w2 x2 oD => ?_)
    have z2 := cutLe x2
    have f2 := oC.fresh (n := w.heap.size) (by omega)
    clear oC
    replace oD : Own w2 w.heap.size 63 5 v2 (xs.map encGft) := by simpa using oD
    obtain ⟨b2, d2, rfl, q2, p2⟩ := oD.rowx
    have oC := oD
    repeat (any_goals (
      conv => whnf
      first
      | ((with_reducible refine RUN.mk (v := .agg (encGft ⟨z, r, p, d, -1⟩).toArray) (fun _ => ?_) ?_); (focus kernel_rfl))
      | ((with_reducible refine bsS elemGft [.agg (encGft ⟨z, r, p, d, -1⟩).toArray] ?_ ?_ ?_ ?_ ?_); (focus rfl); (focus rfl); (focus (intro v hv; simp at hv; subst hv; rfl)); (focus omega); intro w9 e9 oB; have z9 := cutLe e9; (try replace oC := oC.e0 e9))
      | ((with_reducible refine BIF.dec ?_ ?_) <;> intro _)
      | ((with_reducible refine BIF.s ?_ ?_) <;> intro _)
      | (with_reducible refine NEXTK.normal ?_)
      | (with_reducible refine NEXTK.ret ?_)
      | (with_reducible refine NEXTK.exit ?_)
      | (with_reducible refine SEQ.plain ?_)
      | (with_reducible refine hK _ _ ?_)
      | ((with_reducible refine RUNL.agg (fun _ => ?_) ?_); (focus kernel_rfl))
      | (with_reducible refine RUNL.run ?_)
      | ((with_reducible refine AR.ok ?_ ?_); exact ⟨by first | omega | (dsimp only; omega), by first | omega | (dsimp only; omega)⟩)
      | (with_reducible refine AR.wr ?_)
      | ((with_reducible intro w3 e3); try have z3 := cutLe e3)
      | ((with_reducible intro h3); have h4 := Nat.le_of_lt h3; clear h4)))
    conv => whnf
    refine apS (ns := [encGft ⟨z, r, p, d, -1⟩]) elemGft oC oB.row.1 rfl (by intro l hl; simp at hl; subst hl; rfl) ⟨by simp; omega, by simp; omega⟩ ⟨(by show w.heap.size ≤ _; omega), by omega⟩ trivial (fun v3 w3 x3 o3 => ?_)
    have z3 := cutLe x3
    obtain ⟨ys, hys⟩ : ∃ ys, ys = xs ++ [(⟨z, r, p, d, -1⟩ : Gft)] := ⟨_, rfl⟩
    replace o3 : Own w3 w.heap.size 63 5 v3 (ys.map encGft) := by rw [hys]; simpa using o3
    have hgy : ∀ x ∈ ys, x.fGiver.size ≤ 9223372036854775807 := by
      rw [hys]; intro x hx
      rcases List.mem_append.1 hx with h | h
      · exact hg x h
      · simp at h; subst h; exact hrs
    have hyl : ys.length = n + 1 := by rw [hys]; simp; omega
    obtain ⟨b3, d3, rfl, q3, p3⟩ := o3.rowx
    have hra : Row w3 a 5 (xs.map encGft) := by
      have h9 : Row w9 a 5 (xs.map encGft) := by
        have h2 : Row w2 a 5 (xs.map encGft) := Row.past (w := w) hr ((by repeat (first | assumption | refine Row.e0 ?_ (by assumption))) : Row w1 a 5 (xs.map encGft)) x2 (fun b hb h => f2 b hb h)
        exact h2.e0 e9
      exact Row.past (w := w) hr h9 x3 (fun b hb h => oC.fresh (Nat.le_refl _) b hb h)
    repeat (any_goals (
      conv => whnf
      first
      | ((with_reducible refine callF (g := 40) ?_ ?_); kernel_rfl; refine ⟨_, l26Good_c _ _ _ ys _ (by repeat (first | assumption | refine Row.e0 ?_ (by assumption))) rfl (by omega) hgy, ?_⟩; intro w4 e4; have z4 := cutLe e4)
      | ((with_reducible refine callF (g := 40) ?_ ?_); kernel_rfl; refine ⟨_, l26Good_c _ _ _ xs _ (by repeat (first | assumption | refine Row.e0 ?_ (by assumption))) hn (by omega) hg, ?_⟩; intro w4 e4; have z4 := cutLe e4)
      | ((with_reducible refine bsS elemGft [] rfl rfl (by simp) (by omega) (fun w9 e9 o9 => ?_)); have z9 := cutLe e9)
      | ((with_reducible refine BIF.dec ?_ ?_) <;> intro _)
      | ((with_reducible refine BIF.s ?_ ?_) <;> intro _)
      | (with_reducible refine NEXTK.normal ?_)
      | (with_reducible refine NEXTK.ret ?_)
      | (with_reducible refine NEXTK.exit ?_)
      | (with_reducible refine SEQ.plain ?_)
      | (with_reducible refine hK _ _ ?_)
      | ((with_reducible refine RUNL.agg (fun _ => ?_) ?_); (focus kernel_rfl))
      | (with_reducible refine RUNL.run ?_)
      | ((with_reducible refine AR.ok ?_ ?_); exact ⟨by first | omega | (dsimp only; omega), by first | omega | (dsimp only; omega)⟩)
      | (with_reducible refine AR.wr ?_)
      | ((with_reducible intro w3 e3); try have z3 := cutLe e3)
      | ((with_reducible intro h3); have h4 := Nat.le_of_lt h3; clear h4)))
    all_goals
      intro hx'
      first
      | (have hf : takeP xs r p d = ([], 0, false) := by simp_all [takeP, newO]
         rw [hf]; exact ⟨_, rfl, hx', _, rfl, (by clear hx'; repeat (first | exact o9 | exact o9.lo (by omega) | refine Own.e0 ?_ (by assumption)))⟩)
      | (have hf : takeP xs r p d = (ys, z, true) := by simp_all [takeP, newO]
         rw [hf]; exact ⟨_, rfl, hx', _, rfl, (by clear hx'; repeat (first | exact o3 | exact o3.lo (by omega) | refine Own.e0 ?_ (by assumption)))⟩)

end Go.Proofs.Ytohnoccmaeegdaa

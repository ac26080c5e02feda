/- ThanksAll. -/
import Derived.Test.YtohnoccmaeegdaaGreatDoorRows
import Derived.Test.YtohnoccmaeegdaaGreatDoorGifts6
namespace Go.Proofs.YtohnoccmaeegdaaGreatDoor
open Go Go.X Go.Proofs Go.ChangeShapes Go.WideShapes Go.ChangeAt Go.RowKit
open Go.ChangeMaps (open_string shut_string)
set_option maxHeartbeats 1000000
set_option maxRecDepth 20000
set_option linter.unusedVariables false
set_option linter.unusedSimpArgs false
def thkB (g : ByteArray) (d : Int) (x : Gft) : Bool := decide (x.fGiver = g) && decide (x.fDay ≤ d) && decide (x.fThanks = -1)
def thkF (g : ByteArray) (d : Int) (x : Gft) : Gft := if thkB g d x then ⟨x.fId, x.fGiver, x.fSheets, x.fDay, d⟩ else x
def thkN (g : ByteArray) (d : Int) (xs : List Gft) : Nat := xs.countP (thkB g d)
theorem thkN_take (g : ByteArray) (d : Int) {xs : List Gft} {k : Nat} {x : Gft} (h : xs[k]? = some x) : thkN g d (xs.take (k + 1)) = thkN g d (xs.take k) + (if thkB g d x then 1 else 0) := by
  unfold thkN
  rw [List.take_add_one, h, List.countP_append]
  simp [List.countP_cons]
theorem thkN_le (g : ByteArray) (d : Int) (xs : List Gft) : thkN g d xs ≤ xs.length := List.countP_le_length
def thkOk (xs : List Gft) (g : ByteArray) (d : Int) : Bool := areG xs && okW g && inB d 0 4000
def thkP (xs : List Gft) (g : ByteArray) (d : Int) : List Gft × Int × Bool := if thkOk xs g d then (xs.map (thkF g d), (thkN g d xs : Int), true) else ([], 0, false)
theorem thkP_len (xs : List Gft) (g : ByteArray) (d : Int) : (thkP xs g d).1.length ≤ xs.length := by
  unfold thkP
  split <;> simp
theorem ThanksAll_c (a : Option Addr) (n c : Nat) (xs : List Gft) (g : ByteArray) (d : Int) (w : World) (hr : Row w a 5 (xs.map encGft)) (hn : xs.length = n) (hm : n ≤ 1048577) :
    Calls Tryz.prog 6 #[.slice a n c, .string g, .int .i64 d] w fun e w' => ∃ v, e = .returned v ∧ E0 w w' ∧ ∃ s, v = .tuple #[s, .int .i64 (thkP xs g d).2.1, .bool (thkP xs g d).2.2] ∧ Own w' w.heap.size 41 5 s ((thkP xs g d).1.map encGft) := by
  refine enterK Non 60 Tryz.func6 rfl rfl rfl fun K hK => ?_
  by_cases ho : areG xs = true ∧ okW g = true ∧ inB d 0 4000 = true
  · have hf : thkP xs g d = (xs.map (thkF g d), (thkN g d xs : Int), true) := by simp [thkP, thkOk, ho]
    have hl := areG_len ho.1
    repeat (any_goals (
      conv => whnf
      first
      | ((with_reducible refine callF (g := 26) ?_ ?_); kernel_rfl; refine ⟨_, AreGifts_c _ _ _ xs _ (by repeat (first | assumption | refine Row.e0 ?_ (by assumption))) hn (by omega), ?_⟩; intro w4 e4; have z4 := cutLe e4)
      | ((with_reducible refine callF (g := 27) ?_ ?_); kernel_rfl; refine ⟨_, isWord_c _ _, ?_⟩; intro w4 e4; have z4 := cutLe e4)
      | ((with_reducible refine callF (g := 28) ?_ ?_); kernel_rfl; refine ⟨_, isDay_c _ _, ?_⟩; intro w4 e4; have z4 := cutLe e4)
      | ((exfalso; clear hK; simp_all; done))
      | ((with_reducible refine BIF.dec ?_ ?_) <;> intro _)
      | ((with_reducible refine BIF.s ?_ ?_) <;> intro _)
      | (with_reducible refine NEXTK.normal ?_)
      | (with_reducible refine NEXTK.ret ?_)
      | (with_reducible refine NEXTK.exit ?_)
      | (with_reducible refine SEQ.plain ?_)
      | (with_reducible refine hK _ _ ?_)
      | ((with_reducible refine RUNL.agg (fun _ => ?_) ?_); (focus kernel_rfl))
      | (with_reducible refine RUNL.run ?_)
      | ((with_reducible refine AR.ok ?_ ?_); exact ⟨by first | omega | (dsimp only; omega), by first | omega | (dsimp only; omega)⟩)
      | (with_reducible refine AR.wr ?_)
      | ((with_reducible intro w3 e3); try have z3 := cutLe e3)
      | ((with_reducible intro h3); have h4 := Nat.le_of_lt h3; clear h4)))
    conv => whnf
    refine callY (g := 29) (by kernel_rfl) ⟨_, fun x => CloneGft_c _ _ _ xs _ (hr.ext x (mAddr_Non _)) hn (by omega), fun r w5 e5 oC => ?_⟩
    have z5 := cutLe e5
    obtain ⟨b5, d5, rfl, q5, p5⟩ := oC.rowx
    replace oC := oC.lo (lo' := w.heap.size) (by omega)
    repeat (any_goals (
      conv => whnf
      first
      | ((with_reducible refine BIF.dec ?_ ?_) <;> intro _)
      | ((with_reducible refine BIF.s ?_ ?_) <;> intro _)
      | (with_reducible refine NEXTK.normal ?_)
      | (with_reducible refine NEXTK.ret ?_)
      | (with_reducible refine NEXTK.exit ?_)
      | (with_reducible refine SEQ.plain ?_)
      | (with_reducible refine hK _ _ ?_)
      | ((with_reducible refine RUNL.agg (fun _ => ?_) ?_); (focus kernel_rfl))
      | (with_reducible refine RUNL.run ?_)
      | ((with_reducible refine AR.ok ?_ ?_); exact ⟨by first | omega | (dsimp only; omega), by first | omega | (dsimp only; omega)⟩)
      | (with_reducible refine AR.wr ?_)
      | ((with_reducible intro w3 e3); try have z3 := cutLe e3)
      | ((with_reducible intro h3); have h4 := Nat.le_of_lt h3; clear h4)))
    conv => whnf
    refine LOOP.mk (Nat × Int) (fun t => [(30, .v (.int .i64 t.1)), (10, .v (.int .i64 t.2))]) (fun t wr => t.1 ≤ n ∧ t.2 = thkN g d (xs.take t.1) ∧ Own wr w.heap.size 41 5 (.slice b5 xs.length d5) (((xs.take t.1).map (thkF g d) ++ xs.drop t.1).map encGft)) (fun t => n - t.1) (0, 0) rfl ⟨rfl, rfl, trivial⟩ ⟨Nat.zero_le _, rfl, by simpa using oC⟩ ?_
    rintro ⟨j, s⟩ wr - ⟨hj, hs, hown⟩
    simp only at hj hs hown
    have oL := fun k h => hown.block (k := k) h
    conv => whnf
    repeat (first | ((with_reducible refine NEXTK.normal ?_); conv => whnf) | ((with_reducible refine NEXTK.exit ?_); conv => whnf) | ((with_reducible refine NEXTK.ret ?_); conv => whnf) | ((with_reducible refine SEQ.plain ?_); conv => whnf) | ((with_reducible refine AR.ok ?_ ?_); exact ⟨by omega, by omega⟩; conv => whnf))
    refine BIF.dec (fun hlt => ?_) (fun hlt => ?_)
    · have hlt' : j < xs.length := by simp only at hlt; omega
      have his := hown.row.1.isSome (by simp; omega)
      obtain ⟨x, hx⟩ : ∃ x, xs[j]? = some x := ⟨xs[j]'(by omega), by simp⟩
      obtain ⟨ls, hls⟩ : ∃ ls, ls = (xs.take j).map (thkF g d) ++ xs.drop j := ⟨_, rfl⟩
      have hget : ls[j]? = some x := by rw [hls]; exact mapget hx
      have hset := mapset (f := thkF g d) hx
      have hcn := thkN_take g d hx
      have hcl := thkN_le g d (xs.take j)
      have hcl2 : thkN g d (xs.take j) ≤ 12 := by simp at hcl; omega
      rw [← hls] at hown hset
      by_cases hxg : x.fGiver = g ∧ x.fDay ≤ d ∧ x.fThanks = -1
      · have hxb : thkB g d x = true := by simp [thkB, hxg]
        have hxd := hxg.2.1
        have hxt := hxg.2.2
        have hfx : thkF g d x = ⟨x.fId, x.fGiver, x.fSheets, x.fDay, d⟩ := by simp [thkF, hxb]
        rw [if_pos hxb] at hcn
        repeat (any_goals (
          conv => whnf
          first
          | ((with_reducible refine OBL.mk ?_ (fun _ => ?_)); exact ⟨by first | omega | (dsimp only; omega), by first | omega | (dsimp only; omega), his⟩)
          | ((with_reducible refine ELD.atNow (enc := encGft) (xs := ls) j hown.row.1 ?_ ?_ (fun x' hx' => ?_)); (first | rfl | omega); (have := (List.getElem?_eq_some_iff.1 hget).1; omega); obtain rfl : x = x' := by (rw [hget] at hx'; exact Option.some.inj hx'))
          | ((with_reducible intro w3 e3); have z3 := cutLe e3; replace hown := hown.ext e3 (by first | exact fun _ _ h => h | (intro k hk h; have hh := oL k hk; simp only [bk] at h; omega)))
          | ((with_reducible refine BIF.seq ?_ ?_) <;> intro hsq)
          | ((with_reducible refine BIF.dec ?_ ?_) <;> intro hdq)
          | ((with_reducible refine BIF.beq ?_ ?_) <;> intro hbq)
          | ((exfalso; exact hsq hxg.1))
          | ((exfalso; omega))
          | ((with_reducible refine BIF.dec ?_ ?_) <;> intro _)
          | ((with_reducible refine BIF.s ?_ ?_) <;> intro _)
          | (with_reducible refine NEXTK.normal ?_)
          | (with_reducible refine NEXTK.ret ?_)
          | (with_reducible refine NEXTK.exit ?_)
          | (with_reducible refine SEQ.plain ?_)
          | (with_reducible refine hK _ _ ?_)
          | ((with_reducible refine RUNL.agg (fun _ => ?_) ?_); (focus kernel_rfl))
          | (with_reducible refine RUNL.run ?_)
          | ((with_reducible refine AR.ok ?_ ?_); exact ⟨by first | omega | (dsimp only; omega), by first | omega | (dsimp only; omega)⟩)
          | (with_reducible refine AR.wr ?_)
          | ((with_reducible intro w3 e3); try have z3 := cutLe e3)
          | ((with_reducible intro h3); have h4 := Nat.le_of_lt h3; clear h4)))
        conv => whnf
        refine stS (i := _) hown rfl rfl rfl j rfl (by rw [List.getElem?_map, hget]; rfl) (by decide) (Nat.le_refl _) ⟨fun h => by have := (oL _ h).2; dsimp only at this; omega, trivial⟩ (fun w6 e6 o6 => ?_)
        replace o6 : Own w6 w.heap.size 41 5 (.slice b5 xs.length d5) (((xs.take (j + 1)).map (thkF g d) ++ xs.drop (j + 1)).map encGft) := by rw [← hset, List.map_set, hfx]; exact o6
        repeat (any_goals (
          conv => whnf
          first
          | ((with_reducible refine BIF.dec ?_ ?_) <;> intro _)
          | ((with_reducible refine BIF.s ?_ ?_) <;> intro _)
          | (with_reducible refine NEXTK.normal ?_)
          | (with_reducible refine NEXTK.ret ?_)
          | (with_reducible refine NEXTK.exit ?_)
          | (with_reducible refine SEQ.plain ?_)
          | (with_reducible refine hK _ _ ?_)
          | ((with_reducible refine RUNL.agg (fun _ => ?_) ?_); (focus kernel_rfl))
          | (with_reducible refine RUNL.run ?_)
          | ((with_reducible refine AR.ok ?_ ?_); exact ⟨by first | omega | (dsimp only; omega), by first | omega | (dsimp only; omega)⟩)
          | (with_reducible refine AR.wr ?_)
          | ((with_reducible intro w3 e3); try have z3 := cutLe e3)
          | ((with_reducible intro h3); have h4 := Nat.le_of_lt h3; clear h4)))
        exact ⟨(j + 1, s + 1), rfl, ⟨rfl, rfl, trivial⟩, rfl, rfl, ⟨by simp only; omega, by simp only; omega, o6⟩, by simp only; omega⟩
      · have hxb : thkB g d x = false := by
          cases h : thkB g d x with
          | false => rfl
          | true =>
            simp only [thkB, Bool.and_eq_true, decide_eq_true_eq] at h
            exact absurd ⟨h.1.1, h.1.2, h.2⟩ hxg
        have hfx : thkF g d x = x := by simp [thkF, hxb]
        rw [if_neg (by simp [hxb])] at hcn
        repeat (any_goals (
          conv => whnf
          first
          | ((with_reducible refine OBL.mk ?_ (fun _ => ?_)); exact ⟨by first | omega | (dsimp only; omega), by first | omega | (dsimp only; omega), his⟩)
          | ((with_reducible refine ELD.atNow (enc := encGft) (xs := ls) j hown.row.1 ?_ ?_ (fun x' hx' => ?_)); (first | rfl | omega); (have := (List.getElem?_eq_some_iff.1 hget).1; omega); obtain rfl : x = x' := by (rw [hget] at hx'; exact Option.some.inj hx'))
          | ((with_reducible intro w3 e3); have z3 := cutLe e3; replace hown := hown.ext e3 (by first | exact fun _ _ h => h | (intro k hk h; have hh := oL k hk; simp only [bk] at h; omega)))
          | ((with_reducible refine BIF.seq ?_ ?_) <;> intro hsq)
          | ((with_reducible refine BIF.dec ?_ ?_) <;> intro hdq)
          | ((with_reducible refine BIF.beq ?_ ?_) <;> intro hbq)
          | ((exfalso; exact hxg ⟨by assumption, by assumption, by assumption⟩))
          | ((with_reducible refine BIF.dec ?_ ?_) <;> intro _)
          | ((with_reducible refine BIF.s ?_ ?_) <;> intro _)
          | (with_reducible refine NEXTK.normal ?_)
          | (with_reducible refine NEXTK.ret ?_)
          | (with_reducible refine NEXTK.exit ?_)
          | (with_reducible refine SEQ.plain ?_)
          | (with_reducible refine hK _ _ ?_)
          | ((with_reducible refine RUNL.agg (fun _ => ?_) ?_); (focus kernel_rfl))
          | (with_reducible refine RUNL.run ?_)
          | ((with_reducible refine AR.ok ?_ ?_); exact ⟨by first | omega | (dsimp only; omega), by first | omega | (dsimp only; omega)⟩)
          | (with_reducible refine AR.wr ?_)
          | ((with_reducible intro w3 e3); try have z3 := cutLe e3)
          | ((with_reducible intro h3); have h4 := Nat.le_of_lt h3; clear h4)))
        all_goals
          refine ⟨(j + 1, s), rfl, ⟨rfl, rfl, trivial⟩, rfl, rfl, ⟨by simp only; omega, by simp only; omega, ?_⟩, by simp only; omega⟩
          simp only
          rw [← mapkeep hx hfx, ← hls]; exact hown
    · have hkj : j = xs.length := by simp only at hlt; omega
      rw [hkj, mapend] at hown
      rw [hkj, List.take_length] at hs
      repeat (any_goals (
        conv => whnf
        first
        | ((with_reducible refine BIF.dec ?_ ?_) <;> intro _)
        | ((with_reducible refine BIF.s ?_ ?_) <;> intro _)
        | (with_reducible refine NEXTK.normal ?_)
        | (with_reducible refine NEXTK.ret ?_)
        | (with_reducible refine NEXTK.exit ?_)
        | (with_reducible refine SEQ.plain ?_)
        | (with_reducible refine hK _ _ ?_)
        | ((with_reducible refine RUNL.agg (fun _ => ?_) ?_); (focus kernel_rfl))
        | (with_reducible refine RUNL.run ?_)
        | ((with_reducible refine AR.ok ?_ ?_); exact ⟨by first | omega | (dsimp only; omega), by first | omega | (dsimp only; omega)⟩)
        | (with_reducible refine AR.wr ?_)
        | ((with_reducible intro w3 e3); try have z3 := cutLe e3)
        | ((with_reducible intro h3); have h4 := Nat.le_of_lt h3; clear h4)))
      intro hx'
      rw [hf, ← hs]
      exact ⟨_, rfl, hx', _, rfl, hown⟩
  · have hf : thkP xs g d = ([], 0, false) := by
      unfold thkP thkOk
      rw [if_neg]
      simpa [and_assoc] using ho
    repeat (any_goals (
      conv => whnf
      first
      | ((with_reducible refine callF (g := 26) ?_ ?_); kernel_rfl; refine ⟨_, AreGifts_c _ _ _ xs _ (by repeat (first | assumption | refine Row.e0 ?_ (by assumption))) hn (by omega), ?_⟩; intro w4 e4; have z4 := cutLe e4)
      | ((with_reducible refine callF (g := 27) ?_ ?_); kernel_rfl; refine ⟨_, isWord_c _ _, ?_⟩; intro w4 e4; have z4 := cutLe e4)
      | ((with_reducible refine callF (g := 28) ?_ ?_); kernel_rfl; refine ⟨_, isDay_c _ _, ?_⟩; intro w4 e4; have z4 := cutLe e4)
      | ((exfalso; clear hK; simp_all; done))
      | ((with_reducible refine BIF.dec ?_ ?_) <;> intro _)
      | ((with_reducible refine BIF.s ?_ ?_) <;> intro _)
      | (with_reducible refine NEXTK.normal ?_)
      | (with_reducible refine NEXTK.ret ?_)
      | (with_reducible refine NEXTK.exit ?_)
      | (with_reducible refine SEQ.plain ?_)
      | (with_reducible refine hK _ _ ?_)
      | ((with_reducible refine RUNL.agg (fun _ => ?_) ?_); (focus kernel_rfl))
      | (with_reducible refine RUNL.run ?_)
      | ((with_reducible refine AR.ok ?_ ?_); exact ⟨by first | omega | (dsimp only; omega), by first | omega | (dsimp only; omega)⟩)
      | (with_reducible refine AR.wr ?_)
      | ((with_reducible intro w3 e3); try have z3 := cutLe e3)
      | ((with_reducible intro h3); have h4 := Nat.le_of_lt h3; clear h4)))
    all_goals
      intro hx'
      rw [hf]
      exact ⟨_, rfl, hx', _, rfl, Own.nil _ _ _ _⟩
theorem ThanksAllS_c (a : Option Addr) (n c : Nat) (xs : List Gft) (g : ByteArray) (d : Int) (w : World) (hr : Row w a 5 (xs.map encGft)) (hn : xs.length = n) (hm : n ≤ 1048577) (hg : ∀ x ∈ xs, x.fGiver.size ≤ 9223372036854775807) (hgs : g.size ≤ 9223372036854775807) :
    Calls Tryz.prog 7 #[.slice a n c, .string g, .int .i64 d] w fun e w' => ∃ v, e = .returned v ∧ E0 w w' ∧ ∃ s, v = .tuple #[s, .int .i64 (thkP xs g d).2.1, .bool (thkP xs g d).2.2] ∧ Own w' w.heap.size 41 5 s ((thkP xs g d).1.map encGft) := by
  refine enterK Non 63 Tryz.func7 rfl rfl rfl fun K hK => ?_
  by_cases ho : areG xs = true ∧ okW g = true ∧ inB d 0 4000 = true
  · have hf : thkP xs g d = (xs.map (thkF g d), (thkN g d xs : Int), true) := by simp [thkP, thkOk, ho]
    have hl := areG_len ho.1
    repeat (any_goals (
      conv => whnf
      first
      | ((with_reducible refine callF (g := 30) ?_ ?_); kernel_rfl; refine ⟨_, l26Good_c _ _ _ xs _ (by repeat (first | assumption | refine Row.e0 ?_ (by assumption))) hn (by omega) hg, ?_⟩; intro w4 e4; have z4 := cutLe e4)
      | ((with_reducible refine callF (g := 31) ?_ ?_); kernel_rfl; refine ⟨_, l2Word_c _ _ (by assumption), ?_⟩; intro w4 e4; have z4 := cutLe e4)
      | ((with_reducible refine callF (g := 32) ?_ ?_); kernel_rfl; refine ⟨_, l2Day_c _ _, ?_⟩; intro w4 e4; have z4 := cutLe e4)
      | ((exfalso; clear hK; simp_all; done))
      | ((with_reducible refine BIF.dec ?_ ?_) <;> intro _)
      | ((with_reducible refine BIF.s ?_ ?_) <;> intro _)
      | (with_reducible refine NEXTK.normal ?_)
      | (with_reducible refine NEXTK.ret ?_)
      | (with_reducible refine NEXTK.exit ?_)
      | (with_reducible refine SEQ.plain ?_)
      | (with_reducible refine hK _ _ ?_)
      | ((with_reducible refine RUNL.agg (fun _ => ?_) ?_); (focus kernel_rfl))
      | (with_reducible refine RUNL.run ?_)
      | ((with_reducible refine AR.ok ?_ ?_); exact ⟨by first | omega | (dsimp only; omega), by first | omega | (dsimp only; omega)⟩)
      | (with_reducible refine AR.wr ?_)
      | ((with_reducible intro w3 e3); try have z3 := cutLe e3)
      | ((with_reducible intro h3); have h4 := Nat.le_of_lt h3; clear h4)))
    conv => whnf
    refine bsS elemGft [] rfl rfl (by simp) (by omega) (fun w1 e1 o1 => ?_)
    have z1 := cutLe e1
    replace o1 : Own w1 w.heap.size 41 5 (.slice (some ⟨w4.heap.size, 0, none⟩) 0 0) (([] : List Gft).map encGft) := o1.lo (by omega)
    repeat (any_goals (
      conv => whnf
      first
      | ((with_reducible refine BIF.dec ?_ ?_) <;> intro _)
      | ((with_reducible refine BIF.s ?_ ?_) <;> intro _)
      | (with_reducible refine NEXTK.normal ?_)
      | (with_reducible refine NEXTK.ret ?_)
      | (with_reducible refine NEXTK.exit ?_)
      | (with_reducible refine SEQ.plain ?_)
      | (with_reducible refine hK _ _ ?_)
      | ((with_reducible refine RUNL.agg (fun _ => ?_) ?_); (focus kernel_rfl))
      | (with_reducible refine RUNL.run ?_)
      | ((with_reducible refine AR.ok ?_ ?_); exact ⟨by first | omega | (dsimp only; omega), by first | omega | (dsimp only; omega)⟩)
      | (with_reducible refine AR.wr ?_)
      | ((with_reducible intro w3 e3); try have z3 := cutLe e3)
      | ((with_reducible intro h3); have h4 := Nat.le_of_lt h3; clear h4)))
    conv => whnf
    refine LOOP.mk (Nat × (Option Addr × Nat × Nat) × Int) (fun t => [(11, .v (.int .i64 t.1)), (9, .v (.slice t.2.1.1 t.2.1.2.1 t.2.1.2.2)), (10, .v (.int .i64 t.2.2))])
      (fun t wr => t.1 ≤ n ∧ w.heap.size ≤ wr.heap.size ∧ t.2.2 = thkN g d (xs.take t.1) ∧ Own wr w.heap.size 41 5 (.slice t.2.1.1 t.2.1.2.1 t.2.1.2.2) (((xs.take t.1).map (thkF g d)).map encGft)) (fun t => n - t.1) (0, (some ⟨w4.heap.size, 0, none⟩, 0, 0), 0) rfl ⟨rfl, rfl, rfl, trivial⟩ ⟨Nat.zero_le _, by show w.heap.size ≤ w1.heap.size; omega, rfl, o1⟩ ?_
    rintro ⟨j, ⟨b, m, e⟩, s⟩ wr - ⟨hj, hz, hs, hown⟩
    simp only at hj hz hs hown
    have oL := fun k h => hown.block (k := k) h
    have hml := hown.row.2
    simp only [List.length_map, List.length_take] at hml
    conv => whnf
    repeat (first | ((with_reducible refine NEXTK.normal ?_); conv => whnf) | ((with_reducible refine NEXTK.exit ?_); conv => whnf) | ((with_reducible refine NEXTK.ret ?_); conv => whnf) | ((with_reducible refine SEQ.plain ?_); conv => whnf) | ((with_reducible refine AR.ok ?_ ?_); exact ⟨by omega, by omega⟩; conv => whnf))
    refine BIF.dec (fun hlt => ?_) (fun hlt => ?_)
    · have hlt' : j < xs.length := by simp only at hlt; omega
      have his := hr.isSome (by simp; omega)
      obtain ⟨x, hx⟩ : ∃ x, xs[j]? = some x := ⟨xs[j]'(by omega), by simp⟩
      have hsn := mapsnoc (f := thkF g d) hx
      have hcn := thkN_take g d hx
      have hcl := thkN_le g d (xs.take j)
      have hcl2 : thkN g d (xs.take j) ≤ 12 := by simp at hcl; omega
      by_cases hxg : x.fGiver = g ∧ x.fDay ≤ d ∧ x.fThanks = -1
      · have hxb : thkB g d x = true := by simp [thkB, hxg]
        have hxd := hxg.2.1
        have hxt := hxg.2.2
        have hfx : thkF g d x = ⟨x.fId, x.fGiver, x.fSheets, x.fDay, d⟩ := by simp [thkF, hxb]
        rw [if_pos hxb] at hcn
        repeat (any_goals (
          conv => whnf
          first
          | ((with_reducible refine OBL.mk ?_ (fun _ => ?_)); exact ⟨by first | omega | (dsimp only; omega), by first | omega | (dsimp only; omega), his⟩)
          | ((with_reducible refine ELD.at (j) hr ?_ ?_ ?_ (fun x' hx' => ?_)); exact mAddr_Non _; (first | rfl | omega); exact hlt'; obtain rfl : x = x' := by (rw [hx] at hx'; exact Option.some.inj hx'))
          | ((with_reducible intro w3 e3); have z3 := cutLe e3; replace hown := hown.ext e3 (by first | exact fun _ _ h => h | (intro k hk h; have hh := oL k hk; simp only [bk] at h; omega)))
          | ((with_reducible refine BIF.seq ?_ ?_) <;> intro hsq)
          | ((with_reducible refine BIF.dec ?_ ?_) <;> intro hdq)
          | ((with_reducible refine BIF.beq ?_ ?_) <;> intro hbq)
          | ((exfalso; exact hsq hxg.1))
          | ((exfalso; omega))
          | ((with_reducible refine bsS elemGft [.agg (encGft ⟨x.fId, x.fGiver, x.fSheets, x.fDay, d⟩).toArray] ?_ ?_ ?_ ?_ ?_); (focus rfl); (focus rfl); (focus (intro v hv; simp at hv; subst hv; rfl)); (focus omega); intro w9 e9 oB; have z9 := cutLe e9; (try replace oC := oC.e0 e9))
          | ((with_reducible refine BIF.dec ?_ ?_) <;> intro _)
          | ((with_reducible refine BIF.s ?_ ?_) <;> intro _)
          | (with_reducible refine NEXTK.normal ?_)
          | (with_reducible refine NEXTK.ret ?_)
          | (with_reducible refine NEXTK.exit ?_)
          | (with_reducible refine SEQ.plain ?_)
          | (with_reducible refine hK _ _ ?_)
          | ((with_reducible refine RUNL.agg (fun _ => ?_) ?_); (focus kernel_rfl))
          | (with_reducible refine RUNL.run ?_)
          | ((with_reducible refine AR.ok ?_ ?_); exact ⟨by first | omega | (dsimp only; omega), by first | omega | (dsimp only; omega)⟩)
          | (with_reducible refine AR.wr ?_)
          | ((with_reducible intro w3 e3); try have z3 := cutLe e3)
          | ((with_reducible intro h3); have h4 := Nat.le_of_lt h3; clear h4)))
        conv => whnf
        replace hown := hown.e0 e9
        refine apS (ns := [encGft (thkF g d x)]) elemGft hown (by rw [hfx]; exact oB.row.1) rfl (by intro l hl; simp at hl; subst hl; rfl) ⟨by simp; omega, by simp; omega⟩ ⟨(by show w.heap.size ≤ _; omega), by omega⟩ ⟨fun h => by have := (oL _ h).2; dsimp only at this; omega, trivial⟩ (fun v2 w2 x2 o2 => ?_)
        have z2 := cutLe x2
        replace o2 : Own w2 w.heap.size 41 5 v2 (((xs.take (j + 1)).map (thkF g d)).map encGft) := by rw [hsn]; simpa using o2
        obtain ⟨b2, d2, rfl, q2, p2⟩ := o2.rowx
        repeat (any_goals (
          conv => whnf
          first
          | ((with_reducible refine BIF.dec ?_ ?_) <;> intro _)
          | ((with_reducible refine BIF.s ?_ ?_) <;> intro _)
          | (with_reducible refine NEXTK.normal ?_)
          | (with_reducible refine NEXTK.ret ?_)
          | (with_reducible refine NEXTK.exit ?_)
          | (with_reducible refine SEQ.plain ?_)
          | (with_reducible refine hK _ _ ?_)
          | ((with_reducible refine RUNL.agg (fun _ => ?_) ?_); (focus kernel_rfl))
          | (with_reducible refine RUNL.run ?_)
          | ((with_reducible refine AR.ok ?_ ?_); exact ⟨by first | omega | (dsimp only; omega), by first | omega | (dsimp only; omega)⟩)
          | (with_reducible refine AR.wr ?_)
          | ((with_reducible intro w3 e3); try have z3 := cutLe e3)
          | ((with_reducible intro h3); have h4 := Nat.le_of_lt h3; clear h4)))
        refine ⟨(j + 1, (b2, _, d2), s + 1), rfl, ⟨rfl, rfl, rfl, trivial⟩, rfl, rfl, ⟨by simp only; omega, ?_, by simp only; omega, o2⟩, by simp only; omega⟩
        show w.heap.size ≤ w2.heap.size
        omega
      · have hxb : thkB g d x = false := by
          cases h : thkB g d x with
          | false => rfl
          | true =>
            simp only [thkB, Bool.and_eq_true, decide_eq_true_eq] at h
            exact absurd ⟨h.1.1, h.1.2, h.2⟩ hxg
        have hfx : thkF g d x = x := by simp [thkF, hxb]
        rw [if_neg (by simp [hxb])] at hcn
        repeat (any_goals (
          conv => whnf
          first
          | ((with_reducible refine OBL.mk ?_ (fun _ => ?_)); exact ⟨by first | omega | (dsimp only; omega), by first | omega | (dsimp only; omega), his⟩)
          | ((with_reducible refine ELD.at (j) hr ?_ ?_ ?_ (fun x' hx' => ?_)); exact mAddr_Non _; (first | rfl | omega); exact hlt'; obtain rfl : x = x' := by (rw [hx] at hx'; exact Option.some.inj hx'))
          | ((with_reducible intro w3 e3); have z3 := cutLe e3; replace hown := hown.ext e3 (by first | exact fun _ _ h => h | (intro k hk h; have hh := oL k hk; simp only [bk] at h; omega)))
          | ((with_reducible refine BIF.seq ?_ ?_) <;> intro hsq)
          | ((with_reducible refine BIF.dec ?_ ?_) <;> intro hdq)
          | ((with_reducible refine BIF.beq ?_ ?_) <;> intro hbq)
          | ((exfalso; exact hxg ⟨by assumption, by assumption, by assumption⟩))
          | ((with_reducible refine bsS elemGft [.agg (encGft x).toArray] ?_ ?_ ?_ ?_ ?_); (focus rfl); (focus rfl); (focus (intro v hv; simp at hv; subst hv; rfl)); (focus omega); intro w9 e9 oB; have z9 := cutLe e9; (try replace oC := oC.e0 e9))
          | ((with_reducible refine BIF.dec ?_ ?_) <;> intro _)
          | ((with_reducible refine BIF.s ?_ ?_) <;> intro _)
          | (with_reducible refine NEXTK.normal ?_)
          | (with_reducible refine NEXTK.ret ?_)
          | (with_reducible refine NEXTK.exit ?_)
          | (with_reducible refine SEQ.plain ?_)
          | (with_reducible refine hK _ _ ?_)
          | ((with_reducible refine RUNL.agg (fun _ => ?_) ?_); (focus kernel_rfl))
          | (with_reducible refine RUNL.run ?_)
          | ((with_reducible refine AR.ok ?_ ?_); exact ⟨by first | omega | (dsimp only; omega), by first | omega | (dsimp only; omega)⟩)
          | (with_reducible refine AR.wr ?_)
          | ((with_reducible intro w3 e3); try have z3 := cutLe e3)
          | ((with_reducible intro h3); have h4 := Nat.le_of_lt h3; clear h4)))
        all_goals
          conv => whnf
          replace hown := hown.e0 e9
          refine apS (ns := [encGft (thkF g d x)]) elemGft hown (by rw [hfx]; exact oB.row.1) rfl (by intro l hl; simp at hl; subst hl; rfl) ⟨by simp; omega, by simp; omega⟩ ⟨(by show w.heap.size ≤ _; omega), by omega⟩ ⟨fun h => by have := (oL _ h).2; dsimp only at this; omega, trivial⟩ (fun v2 w2 x2 o2 => ?_)
          have z2 := cutLe x2
          replace o2 : Own w2 w.heap.size 41 5 v2 (((xs.take (j + 1)).map (thkF g d)).map encGft) := by rw [hsn]; simpa using o2
          obtain ⟨b2, d2, rfl, q2, p2⟩ := o2.rowx
          repeat (any_goals (
            conv => whnf
            first
            | ((with_reducible refine BIF.dec ?_ ?_) <;> intro _)
            | ((with_reducible refine BIF.s ?_ ?_) <;> intro _)
            | (with_reducible refine NEXTK.normal ?_)
            | (with_reducible refine NEXTK.ret ?_)
            | (with_reducible refine NEXTK.exit ?_)
            | (with_reducible refine SEQ.plain ?_)
            | (with_reducible refine hK _ _ ?_)
            | ((with_reducible refine RUNL.agg (fun _ => ?_) ?_); (focus kernel_rfl))
            | (with_reducible refine RUNL.run ?_)
            | ((with_reducible refine AR.ok ?_ ?_); exact ⟨by first | omega | (dsimp only; omega), by first | omega | (dsimp only; omega)⟩)
            | (with_reducible refine AR.wr ?_)
            | ((with_reducible intro w3 e3); try have z3 := cutLe e3)
            | ((with_reducible intro h3); have h4 := Nat.le_of_lt h3; clear h4)))
          refine ⟨(j + 1, (b2, _, d2), s), rfl, ⟨rfl, rfl, rfl, trivial⟩, rfl, rfl, ⟨by simp only; omega, ?_, by simp only; omega, o2⟩, by simp only; omega⟩
          show w.heap.size ≤ w2.heap.size
          omega
    · have hkj : j = xs.length := by simp only at hlt; omega
      rw [hkj, List.take_length] at hown hs
      repeat (any_goals (
        conv => whnf
        first
        | ((with_reducible refine BIF.dec ?_ ?_) <;> intro _)
        | ((with_reducible refine BIF.s ?_ ?_) <;> intro _)
        | (with_reducible refine NEXTK.normal ?_)
        | (with_reducible refine NEXTK.ret ?_)
        | (with_reducible refine NEXTK.exit ?_)
        | (with_reducible refine SEQ.plain ?_)
        | (with_reducible refine hK _ _ ?_)
        | ((with_reducible refine RUNL.agg (fun _ => ?_) ?_); (focus kernel_rfl))
        | (with_reducible refine RUNL.run ?_)
        | ((with_reducible refine AR.ok ?_ ?_); exact ⟨by first | omega | (dsimp only; omega), by first | omega | (dsimp only; omega)⟩)
        | (with_reducible refine AR.wr ?_)
        | ((with_reducible intro w3 e3); try have z3 := cutLe e3)
        | ((with_reducible intro h3); have h4 := Nat.le_of_lt h3; clear h4)))
      intro hx'
      rw [hf, ← hs]
      exact ⟨_, rfl, hx', _, rfl, hown⟩
  · have hf : thkP xs g d = ([], 0, false) := by
      unfold thkP thkOk
      rw [if_neg]
      simpa [and_assoc] using ho
    repeat (any_goals (
      conv => whnf
      first
      | ((with_reducible refine callF (g := 30) ?_ ?_); kernel_rfl; refine ⟨_, l26Good_c _ _ _ xs _ (by repeat (first | assumption | refine Row.e0 ?_ (by assumption))) hn (by omega) hg, ?_⟩; intro w4 e4; have z4 := cutLe e4)
      | ((with_reducible refine callF (g := 31) ?_ ?_); kernel_rfl; refine ⟨_, l2Word_c _ _ (by assumption), ?_⟩; intro w4 e4; have z4 := cutLe e4)
      | ((with_reducible refine callF (g := 32) ?_ ?_); kernel_rfl; refine ⟨_, l2Day_c _ _, ?_⟩; intro w4 e4; have z4 := cutLe e4)
      | ((exfalso; clear hK; simp_all; done))
      | ((with_reducible refine bsS elemGft [] rfl rfl (by simp) (by omega) (fun w9 e9 o9 => ?_)); have z9 := cutLe e9)
      | ((with_reducible refine BIF.dec ?_ ?_) <;> intro _)
      | ((with_reducible refine BIF.s ?_ ?_) <;> intro _)
      | (with_reducible refine NEXTK.normal ?_)
      | (with_reducible refine NEXTK.ret ?_)
      | (with_reducible refine NEXTK.exit ?_)
      | (with_reducible refine SEQ.plain ?_)
      | (with_reducible refine hK _ _ ?_)
      | ((with_reducible refine RUNL.agg (fun _ => ?_) ?_); (focus kernel_rfl))
      | (with_reducible refine RUNL.run ?_)
      | ((with_reducible refine AR.ok ?_ ?_); exact ⟨by first | omega | (dsimp only; omega), by first | omega | (dsimp only; omega)⟩)
      | (with_reducible refine AR.wr ?_)
      | ((with_reducible intro w3 e3); try have z3 := cutLe e3)
      | ((with_reducible intro h3); have h4 := Nat.le_of_lt h3; clear h4)))
    all_goals
      intro hx'
      rw [hf]
      exact ⟨_, rfl, hx', _, rfl, o9.lo (by omega)⟩

end Go.Proofs.YtohnoccmaeegdaaGreatDoor

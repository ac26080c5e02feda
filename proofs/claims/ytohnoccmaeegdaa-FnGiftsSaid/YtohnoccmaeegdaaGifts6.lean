/- JoinGivers. -/
import Derived.Test.YtohnoccmaeegdaaRows
import Derived.Test.YtohnoccmaeegdaaGifts2
import Derived.Test.YtohnoccmaeegdaaGifts4
namespace Go.Proofs.Ytohnoccmaeegdaa
open Go Go.X Go.Proofs Go.ChangeShapes Go.WideShapes Go.ChangeAt Go.RowKit
open Go.ChangeMaps (open_string shut_string)
set_option maxHeartbeats 1000000
set_option maxRecDepth 20000
set_option linter.unusedVariables false
set_option linter.unusedSimpArgs false
theorem mapset {f : Gft → Gft} {xs : List Gft} {j : Nat} {x : Gft} (hx : xs[j]? = some x) : ((xs.take j).map f ++ xs.drop j).set j (f x) = (xs.take (j + 1)).map f ++ xs.drop (j + 1) := by
  have hj := (List.getElem?_eq_some_iff.1 hx).1
  have e : xs.drop j = x :: xs.drop (j + 1) := by
    rw [List.drop_eq_getElem_cons hj, (List.getElem?_eq_some_iff.1 hx).2]
  rw [e, List.take_add_one, hx, List.set_append_right _ _ (by simp; omega)]
  have : j - ((xs.take j).map f).length = 0 := by simp; omega
  rw [this, List.set_cons_zero]
  simp
theorem mapget {f : Gft → Gft} {xs : List Gft} {j : Nat} {x : Gft} (hx : xs[j]? = some x) : ((xs.take j).map f ++ xs.drop j)[j]? = some x := by
  have hj := (List.getElem?_eq_some_iff.1 hx).1
  rw [List.getElem?_append_right (by simp; omega)]
  have : j - ((xs.take j).map f).length = 0 := by simp; omega
  rw [this]
  simpa using hx
theorem mapkeep {f : Gft → Gft} {xs : List Gft} {j : Nat} {x : Gft} (hx : xs[j]? = some x) (hf : f x = x) : (xs.take j).map f ++ xs.drop j = (xs.take (j + 1)).map f ++ xs.drop (j + 1) := by
  have hj := (List.getElem?_eq_some_iff.1 hx).1
  have e : xs[j] = x := (List.getElem?_eq_some_iff.1 hx).2
  rw [List.drop_eq_getElem_cons hj, List.take_add_one, hx, e]
  simp [hf]
theorem mapend {f : Gft → Gft} (xs : List Gft) : (xs.take xs.length).map f ++ xs.drop xs.length = xs.map f := by simp
theorem mapsnoc {f : Gft → Gft} {xs : List Gft} {j : Nat} {x : Gft} (hx : xs[j]? = some x) : (xs.take (j + 1)).map f = (xs.take j).map f ++ [f x] := by
  rw [List.take_add_one, hx]; simp
def joinF (fr to : ByteArray) (x : Gft) : Gft := if x.fGiver = fr then ⟨x.fId, to, x.fSheets, x.fDay, x.fThanks⟩ else x
def joinOk (xs : List Gft) (fr to : ByteArray) : Bool := areG xs && okW fr && okW to && !decide (sumG fr xs = 0)
def joinP (xs : List Gft) (fr to : ByteArray) : List Gft × Bool := if joinOk xs fr to then (xs.map (joinF fr to), true) else ([], false)
theorem joinP_len (xs : List Gft) (fr to : ByteArray) : (joinP xs fr to).1.length ≤ xs.length := by
  unfold joinP
  split <;> simp
theorem JoinGivers_c (a : Option Addr) (n c : Nat) (xs : List Gft) (fr to : ByteArray) (w : World) (hr : Row w a 5 (xs.map encGft)) (hn : xs.length = n) (hm : n ≤ 1048577) :
    Calls Try.prog 17 #[.slice a n c, .string fr, .string to] w fun e w' => ∃ v, e = .returned v ∧ E0 w w' ∧ ∃ s, v = .tuple #[s, .bool (joinP xs fr to).2] ∧ Own w' w.heap.size 63 5 s ((joinP xs fr to).1.map encGft) := by
  refine enterK Non 50 Try.func17 rfl rfl rfl fun K hK => ?_
  by_cases ho : areG xs = true ∧ okW fr = true ∧ okW to = true ∧ ¬ sumG fr xs = 0
  · have hf : joinP xs fr to = (xs.map (joinF fr to), true) := by simp [joinP, joinOk, ho]
    have hl := areG_len ho.1
    repeat (any_goals (
      conv => whnf
      first
      | ((with_reducible refine callX (g := 22) ?_ ?_); kernel_rfl; intro hX; refine ⟨_, AreGifts_c _ _ _ xs _ (hr.ext hX (mAddr_Non _)) hn (by omega), ?_⟩; intro w4 e4; have z4 := cutLe e4)
      | ((with_reducible refine callF (g := 41) ?_ ?_); kernel_rfl; refine ⟨_, isWord_c _ _, ?_⟩; intro w4 e4; have z4 := cutLe e4)
      | ((with_reducible refine BIF.beq ?_ ?_) <;> intro _)
      | ((with_reducible refine callX (g := 42) ?_ ?_); kernel_rfl; intro hX; refine ⟨_, sheetsFrom_c _ _ _ xs _ _ (hr.ext hX (mAddr_Non _)) hn ho.1, ?_⟩; intro w4 e4; have z4 := cutLe e4)
      | ((exfalso; clear hK; simp_all; done))
      | ((with_reducible refine BIF.dec ?_ ?_) <;> intro _)
      | ((with_reducible refine BIF.s ?_ ?_) <;> intro _)
      | (with_reducible refine NEXTK.normal ?_)
      | (with_reducible refine NEXTK.ret ?_)
      | (with_reducible refine NEXTK.exit ?_)
      | (with_reducible refine SEQ.plain ?_)
      | (with_reducible refine hK _ _ ?_)
      | ((with_reducible refine RUNL.agg (fun _ => ?_) ?_); (focus kernel_rfl))
      | (with_reducible refine RUNL.run ?_)
      | ((with_reducible refine AR.ok ?_ ?_); exact ⟨by first | omega | (dsimp only; omega), by first | omega | (dsimp only; omega)⟩)
      | (with_reducible refine AR.wr ?_)
      | ((with_reducible intro w3 e3); try have z3 := cutLe e3)
      | ((with_reducible intro h3); have h4 := Nat.le_of_lt h3; clear h4)))
    conv => whnf
    refine callY (g := 39) (by kernel_rfl) ⟨_, fun x => CloneGft_c _ _ _ xs _ (hr.ext x (mAddr_Non _)) hn (by omega), fun r w5 e5 oC => ?_⟩
    have z5 := cutLe e5
    obtain ⟨b5, d5, rfl, q5, p5⟩ := oC.rowx
    replace oC := oC.lo (lo' := w.heap.size) (by omega)
    repeat (any_goals (
      conv => whnf
      first
      | ((with_reducible refine BIF.dec ?_ ?_) <;> intro _)
      | ((with_reducible refine BIF.s ?_ ?_) <;> intro _)
      | (with_reducible refine NEXTK.normal ?_)
      | (with_reducible refine NEXTK.ret ?_)
      | (with_reducible refine NEXTK.exit ?_)
      | (with_reducible refine SEQ.plain ?_)
      | (with_reducible refine hK _ _ ?_)
      | ((with_reducible refine RUNL.agg (fun _ => ?_) ?_); (focus kernel_rfl))
      | (with_reducible refine RUNL.run ?_)
      | ((with_reducible refine AR.ok ?_ ?_); exact ⟨by first | omega | (dsimp only; omega), by first | omega | (dsimp only; omega)⟩)
      | (with_reducible refine AR.wr ?_)
      | ((with_reducible intro w3 e3); try have z3 := cutLe e3)
      | ((with_reducible intro h3); have h4 := Nat.le_of_lt h3; clear h4)))
    conv => whnf
    refine LOOP.mk Nat (fun k => [(33, .v (.int .i64 k))]) (fun k wr => k ≤ n ∧ Own wr w.heap.size 63 5 (.slice b5 xs.length d5) (((xs.take k).map (joinF fr to) ++ xs.drop k).map encGft)) (fun k => n - k) 0 rfl ⟨rfl, trivial⟩ ⟨Nat.zero_le _, by simpa using oC⟩ ?_
    rintro j wr - ⟨hj, hown⟩
    conv => whnf
    repeat (first | ((with_reducible refine NEXTK.normal ?_); conv => whnf) | ((with_reducible refine NEXTK.exit ?_); conv => whnf) | ((with_reducible refine NEXTK.ret ?_); conv => whnf) | ((with_reducible refine SEQ.plain ?_); conv => whnf) | ((with_reducible refine AR.ok ?_ ?_); exact ⟨by omega, by omega⟩; conv => whnf))
    refine BIF.dec (fun hlt => ?_) (fun hlt => ?_)
    · have hlt' : j < xs.length := by omega
      have his := hown.row.1.isSome (by simp; omega)
      obtain ⟨x, hx⟩ : ∃ x, xs[j]? = some x := ⟨xs[j]'(by omega), by simp⟩
      obtain ⟨ls, hls⟩ : ∃ ls, ls = (xs.take j).map (joinF fr to) ++ xs.drop j := ⟨_, rfl⟩
      have hget : ls[j]? = some x := by rw [hls]; exact mapget hx
      have hset := mapset (f := joinF fr to) hx
      rw [← hls] at hown hset
      by_cases hxg : x.fGiver = fr
      · have hfx : joinF fr to x = ⟨x.fId, to, x.fSheets, x.fDay, x.fThanks⟩ := by simp [joinF, hxg]
        repeat (any_goals (
          conv => whnf
          first
          | ((with_reducible refine OBL.mk ?_ (fun _ => ?_)); exact ⟨by first | omega | (dsimp only; omega), by first | omega | (dsimp only; omega), his⟩)
          | ((with_reducible refine ELD.atNow (enc := encGft) (xs := ls) j hown.row.1 ?_ ?_ (fun x' hx' => ?_)); (first | rfl | omega); (have := (List.getElem?_eq_some_iff.1 hget).1; omega); obtain rfl : x = x' := by (rw [hget] at hx'; exact Option.some.inj hx'))
          | ((with_reducible refine BIF.seq ?_ ?_) <;> intro hsq)
          | ((exfalso; exact hsq hxg))
          | ((with_reducible refine BIF.dec ?_ ?_) <;> intro _)
          | ((with_reducible refine BIF.s ?_ ?_) <;> intro _)
          | (with_reducible refine NEXTK.normal ?_)
          | (with_reducible refine NEXTK.ret ?_)
          | (with_reducible refine NEXTK.exit ?_)
          | (with_reducible refine SEQ.plain ?_)
          | (with_reducible refine hK _ _ ?_)
          | ((with_reducible refine RUNL.agg (fun _ => ?_) ?_); (focus kernel_rfl))
          | (with_reducible refine RUNL.run ?_)
          | ((with_reducible refine AR.ok ?_ ?_); exact ⟨by first | omega | (dsimp only; omega), by first | omega | (dsimp only; omega)⟩)
          | (with_reducible refine AR.wr ?_)
          | ((with_reducible intro w3 e3); try have z3 := cutLe e3)
          | ((with_reducible intro h3); have h4 := Nat.le_of_lt h3; clear h4)))
        conv => whnf
        refine stS (i := _) hown rfl rfl rfl j rfl (by rw [List.getElem?_map, hget]; rfl) (by decide) (Nat.le_refl _) trivial (fun w6 e6 o6 => ?_)
        replace o6 : Own w6 w.heap.size 63 5 (.slice b5 xs.length d5) (((xs.take (j + 1)).map (joinF fr to) ++ xs.drop (j + 1)).map encGft) := by rw [← hset, List.map_set, hfx]; exact o6
        repeat (any_goals (
          conv => whnf
          first
          | ((with_reducible refine BIF.dec ?_ ?_) <;> intro _)
          | ((with_reducible refine BIF.s ?_ ?_) <;> intro _)
          | (with_reducible refine NEXTK.normal ?_)
          | (with_reducible refine NEXTK.ret ?_)
          | (with_reducible refine NEXTK.exit ?_)
          | (with_reducible refine SEQ.plain ?_)
          | (with_reducible refine hK _ _ ?_)
          | ((with_reducible refine RUNL.agg (fun _ => ?_) ?_); (focus kernel_rfl))
          | (with_reducible refine RUNL.run ?_)
          | ((with_reducible refine AR.ok ?_ ?_); exact ⟨by first | omega | (dsimp only; omega), by first | omega | (dsimp only; omega)⟩)
          | (with_reducible refine AR.wr ?_)
          | ((with_reducible intro w3 e3); try have z3 := cutLe e3)
          | ((with_reducible intro h3); have h4 := Nat.le_of_lt h3; clear h4)))
        exact ⟨j + 1, rfl, ⟨rfl, trivial⟩, rfl, rfl, ⟨by omega, o6⟩, by omega⟩
      · have hfx : joinF fr to x = x := by simp [joinF, hxg]
        repeat (any_goals (
          conv => whnf
          first
          | ((with_reducible refine OBL.mk ?_ (fun _ => ?_)); exact ⟨by first | omega | (dsimp only; omega), by first | omega | (dsimp only; omega), his⟩)
          | ((with_reducible refine ELD.atNow (enc := encGft) (xs := ls) j hown.row.1 ?_ ?_ (fun x' hx' => ?_)); (first | rfl | omega); (have := (List.getElem?_eq_some_iff.1 hget).1; omega); obtain rfl : x = x' := by (rw [hget] at hx'; exact Option.some.inj hx'))
          | ((with_reducible refine BIF.seq ?_ ?_) <;> intro hsq)
          | ((exfalso; exact hxg hsq))
          | ((with_reducible refine BIF.dec ?_ ?_) <;> intro _)
          | ((with_reducible refine BIF.s ?_ ?_) <;> intro _)
          | (with_reducible refine NEXTK.normal ?_)
          | (with_reducible refine NEXTK.ret ?_)
          | (with_reducible refine NEXTK.exit ?_)
          | (with_reducible refine SEQ.plain ?_)
          | (with_reducible refine hK _ _ ?_)
          | ((with_reducible refine RUNL.agg (fun _ => ?_) ?_); (focus kernel_rfl))
          | (with_reducible refine RUNL.run ?_)
          | ((with_reducible refine AR.ok ?_ ?_); exact ⟨by first | omega | (dsimp only; omega), by first | omega | (dsimp only; omega)⟩)
          | (with_reducible refine AR.wr ?_)
          | ((with_reducible intro w3 e3); try have z3 := cutLe e3)
          | ((with_reducible intro h3); have h4 := Nat.le_of_lt h3; clear h4)))
        refine ⟨j + 1, rfl, ⟨rfl, trivial⟩, rfl, rfl, ⟨by omega, ?_⟩, by omega⟩
        rw [← mapkeep hx hfx, ← hls]; exact hown
    · have hkj : j = xs.length := by omega
      rw [hkj, mapend] at hown
      repeat (any_goals (
        conv => whnf
        first
        | ((with_reducible refine BIF.dec ?_ ?_) <;> intro _)
        | ((with_reducible refine BIF.s ?_ ?_) <;> intro _)
        | (with_reducible refine NEXTK.normal ?_)
        | (with_reducible refine NEXTK.ret ?_)
        | (with_reducible refine NEXTK.exit ?_)
        | (with_reducible refine SEQ.plain ?_)
        | (with_reducible refine hK _ _ ?_)
        | ((with_reducible refine RUNL.agg (fun _ => ?_) ?_); (focus kernel_rfl))
        | (with_reducible refine RUNL.run ?_)
        | ((with_reducible refine AR.ok ?_ ?_); exact ⟨by first | omega | (dsimp only; omega), by first | omega | (dsimp only; omega)⟩)
        | (with_reducible refine AR.wr ?_)
        | ((with_reducible intro w3 e3); try have z3 := cutLe e3)
        | ((with_reducible intro h3); have h4 := Nat.le_of_lt h3; clear h4)))
      intro hx'
      rw [hf]
      exact ⟨_, rfl, hx', _, rfl, hown⟩
  · have hf : joinP xs fr to = ([], false) := by
      unfold joinP joinOk
      rw [if_neg]
      simpa [and_assoc] using ho
    repeat (any_goals (
      conv => whnf
      first
      | ((with_reducible refine callX (g := 22) ?_ ?_); kernel_rfl; intro hX; refine ⟨_, AreGifts_c _ _ _ xs _ (hr.ext hX (mAddr_Non _)) hn (by omega), ?_⟩; intro w4 e4; have z4 := cutLe e4)
      | ((with_reducible refine callF (g := 41) ?_ ?_); kernel_rfl; refine ⟨_, isWord_c _ _, ?_⟩; intro w4 e4; have z4 := cutLe e4)
      | ((with_reducible refine BIF.beq ?_ ?_) <;> intro _)
      | ((with_reducible refine callX (g := 42) ?_ ?_); kernel_rfl; intro hX; refine ⟨_, sheetsFrom_c _ _ _ xs _ _ (hr.ext hX (mAddr_Non _)) hn (by clear hK; simp_all; done), ?_⟩; intro w4 e4; have z4 := cutLe e4)
      | ((exfalso; clear hK; simp_all; done))
      | ((with_reducible refine BIF.dec ?_ ?_) <;> intro _)
      | ((with_reducible refine BIF.s ?_ ?_) <;> intro _)
      | (with_reducible refine NEXTK.normal ?_)
      | (with_reducible refine NEXTK.ret ?_)
      | (with_reducible refine NEXTK.exit ?_)
      | (with_reducible refine SEQ.plain ?_)
      | (with_reducible refine hK _ _ ?_)
      | ((with_reducible refine RUNL.agg (fun _ => ?_) ?_); (focus kernel_rfl))
      | (with_reducible refine RUNL.run ?_)
      | ((with_reducible refine AR.ok ?_ ?_); exact ⟨by first | omega | (dsimp only; omega), by first | omega | (dsimp only; omega)⟩)
      | (with_reducible refine AR.wr ?_)
      | ((with_reducible intro w3 e3); try have z3 := cutLe e3)
      | ((with_reducible intro h3); have h4 := Nat.le_of_lt h3; clear h4)))
    all_goals
      intro hx'
      rw [hf]
      exact ⟨_, rfl, hx', _, rfl, Own.nil _ _ _ _⟩
theorem JoinGiversS_c (a : Option Addr) (n c : Nat) (xs : List Gft) (fr to : ByteArray) (w : World) (hr : Row w a 5 (xs.map encGft)) (hn : xs.length = n) (hm : n ≤ 1048577) (hg : ∀ x ∈ xs, x.fGiver.size ≤ 9223372036854775807) (hfs : fr.size ≤ 9223372036854775807) (hts : to.size ≤ 9223372036854775807) :
    Calls Try.prog 18 #[.slice a n c, .string fr, .string to] w fun e w' => ∃ v, e = .returned v ∧ E0 w w' ∧ ∃ s, v = .tuple #[s, .bool (joinP xs fr to).2] ∧ Own w' w.heap.size 63 5 s ((joinP xs fr to).1.map encGft) := by
  refine enterK Non 53 Try.func18 rfl rfl rfl fun K hK => ?_
  by_cases ho : areG xs = true ∧ okW fr = true ∧ okW to = true ∧ ¬ sumG fr xs = 0
  · have hf : joinP xs fr to = (xs.map (joinF fr to), true) := by simp [joinP, joinOk, ho]
    have hl := areG_len ho.1
    repeat (any_goals (
      conv => whnf
      first
      | ((with_reducible refine callX (g := 40) ?_ ?_); kernel_rfl; intro hX; refine ⟨_, l26Good_c _ _ _ xs _ (hr.ext hX (mAddr_Non _)) hn (by omega) hg, ?_⟩; intro w4 e4; have z4 := cutLe e4)
      | ((with_reducible refine callF (g := 49) ?_ ?_); kernel_rfl; refine ⟨_, l2Word_c _ _ (by assumption), ?_⟩; intro w4 e4; have z4 := cutLe e4)
      | ((with_reducible refine BIF.beq ?_ ?_) <;> intro _)
      | ((with_reducible refine callX (g := 50) ?_ ?_); kernel_rfl; intro hX; refine ⟨_, l26Sum_c _ _ _ xs _ _ (hr.ext hX (mAddr_Non _)) hn ho.1, ?_⟩; intro w4 e4; have z4 := cutLe e4)
      | ((exfalso; clear hK; simp_all; done))
      | ((with_reducible refine BIF.dec ?_ ?_) <;> intro _)
      | ((with_reducible refine BIF.s ?_ ?_) <;> intro _)
      | (with_reducible refine NEXTK.normal ?_)
      | (with_reducible refine NEXTK.ret ?_)
      | (with_reducible refine NEXTK.exit ?_)
      | (with_reducible refine SEQ.plain ?_)
      | (with_reducible refine hK _ _ ?_)
      | ((with_reducible refine RUNL.agg (fun _ => ?_) ?_); (focus kernel_rfl))
      | (with_reducible refine RUNL.run ?_)
      | ((with_reducible refine AR.ok ?_ ?_); exact ⟨by first | omega | (dsimp only; omega), by first | omega | (dsimp only; omega)⟩)
      | (with_reducible refine AR.wr ?_)
      | ((with_reducible intro w3 e3); try have z3 := cutLe e3)
      | ((with_reducible intro h3); have h4 := Nat.le_of_lt h3; clear h4)))
    conv => whnf
    refine bsS elemGft [] rfl rfl (by simp) (by omega) (fun w1 e1 o1 => ?_)
    have z1 := cutLe e1
    replace o1 : Own w1 w.heap.size 63 5 (.slice (some ⟨w4.heap.size, 0, none⟩) 0 0) (([] : List Gft).map encGft) := o1.lo (by omega)
    repeat (any_goals (
      conv => whnf
      first
      | ((with_reducible refine BIF.dec ?_ ?_) <;> intro _)
      | ((with_reducible refine BIF.s ?_ ?_) <;> intro _)
      | (with_reducible refine NEXTK.normal ?_)
      | (with_reducible refine NEXTK.ret ?_)
      | (with_reducible refine NEXTK.exit ?_)
      | (with_reducible refine SEQ.plain ?_)
      | (with_reducible refine hK _ _ ?_)
      | ((with_reducible refine RUNL.agg (fun _ => ?_) ?_); (focus kernel_rfl))
      | (with_reducible refine RUNL.run ?_)
      | ((with_reducible refine AR.ok ?_ ?_); exact ⟨by first | omega | (dsimp only; omega), by first | omega | (dsimp only; omega)⟩)
      | (with_reducible refine AR.wr ?_)
      | ((with_reducible intro w3 e3); try have z3 := cutLe e3)
      | ((with_reducible intro h3); have h4 := Nat.le_of_lt h3; clear h4)))
    conv => whnf
    refine LOOP.mk (Nat × (Option Addr × Nat × Nat)) (fun g => [(9, .v (.int .i64 g.1)), (8, .v (.slice g.2.1 g.2.2.1 g.2.2.2))])
      (fun g wr => g.1 ≤ n ∧ w.heap.size ≤ wr.heap.size ∧ Own wr w.heap.size 63 5 (.slice g.2.1 g.2.2.1 g.2.2.2) (((xs.take g.1).map (joinF fr to)).map encGft)) (fun g => n - g.1) (0, (some ⟨w4.heap.size, 0, none⟩, 0, 0)) rfl ⟨rfl, rfl, trivial⟩ ⟨Nat.zero_le _, by show w.heap.size ≤ w1.heap.size; omega, o1⟩ ?_
    rintro ⟨j, ⟨b, m, e⟩⟩ wr - ⟨hj, hz, hown⟩
    simp only at hj hz hown
    have oL := fun k h => hown.block (k := k) h
    have hml := hown.row.2
    simp only [List.length_map, List.length_take] at hml
    conv => whnf
    repeat (first | ((with_reducible refine NEXTK.normal ?_); conv => whnf) | ((with_reducible refine NEXTK.exit ?_); conv => whnf) | ((with_reducible refine NEXTK.ret ?_); conv => whnf) | ((with_reducible refine SEQ.plain ?_); conv => whnf) | ((with_reducible refine AR.ok ?_ ?_); exact ⟨by omega, by omega⟩; conv => whnf))
    refine BIF.dec (fun hlt => ?_) (fun hlt => ?_)
    · have hlt' : j < xs.length := by simp only at hlt; omega
      have his := hr.isSome (by simp; omega)
      obtain ⟨x, hx⟩ : ∃ x, xs[j]? = some x := ⟨xs[j]'(by omega), by simp⟩
      have hsn := mapsnoc (f := joinF fr to) hx
      by_cases hxg : x.fGiver = fr
      · have hfx : joinF fr to x = ⟨x.fId, to, x.fSheets, x.fDay, x.fThanks⟩ := by simp [joinF, hxg]
        repeat (any_goals (
          conv => whnf
          first
          | ((with_reducible refine OBL.mk ?_ (fun _ => ?_)); exact ⟨by first | omega | (dsimp only; omega), by first | omega | (dsimp only; omega), his⟩)
          | ((with_reducible refine ELD.at (j) hr ?_ ?_ ?_ (fun x' hx' => ?_)); exact mAddr_Non _; (first | rfl | omega); exact hlt'; obtain rfl : x = x' := by (rw [hx] at hx'; exact Option.some.inj hx'))
          | ((with_reducible intro w3 e3); have z3 := cutLe e3; replace hown := hown.ext e3 (by first | exact fun _ _ h => h | (intro k hk h; have hh := oL k hk; simp only [bk] at h; omega)))
          | ((with_reducible refine BIF.seq ?_ ?_) <;> intro hsq)
          | ((exfalso; exact hsq hxg))
          | ((with_reducible refine bsS elemGft [.agg (encGft ⟨x.fId, to, x.fSheets, x.fDay, x.fThanks⟩).toArray] ?_ ?_ ?_ ?_ ?_); (focus rfl); (focus rfl); (focus (intro v hv; simp at hv; subst hv; rfl)); (focus omega); intro w9 e9 oB; have z9 := cutLe e9; (try replace oC := oC.e0 e9))
          | ((with_reducible refine BIF.dec ?_ ?_) <;> intro _)
          | ((with_reducible refine BIF.s ?_ ?_) <;> intro _)
          | (with_reducible refine NEXTK.normal ?_)
          | (with_reducible refine NEXTK.ret ?_)
          | (with_reducible refine NEXTK.exit ?_)
          | (with_reducible refine SEQ.plain ?_)
          | (with_reducible refine hK _ _ ?_)
          | ((with_reducible refine RUNL.agg (fun _ => ?_) ?_); (focus kernel_rfl))
          | (with_reducible refine RUNL.run ?_)
          | ((with_reducible refine AR.ok ?_ ?_); exact ⟨by first | omega | (dsimp only; omega), by first | omega | (dsimp only; omega)⟩)
          | (with_reducible refine AR.wr ?_)
          | ((with_reducible intro w3 e3); try have z3 := cutLe e3)
          | ((with_reducible intro h3); have h4 := Nat.le_of_lt h3; clear h4)))
        conv => whnf
        replace hown := hown.e0 e9
        refine apS (ns := [encGft (joinF fr to x)]) elemGft hown (by rw [hfx]; exact oB.row.1) rfl (by intro l hl; simp at hl; subst hl; rfl) ⟨by simp; omega, by simp; omega⟩ ⟨(by show w.heap.size ≤ _; omega), by omega⟩ ⟨fun h => by have := (oL _ h).2; dsimp only at this; omega, trivial⟩ (fun v2 w2 x2 o2 => ?_)
        have z2 := cutLe x2
        replace o2 : Own w2 w.heap.size 63 5 v2 (((xs.take (j + 1)).map (joinF fr to)).map encGft) := by rw [hsn]; simpa using o2
        obtain ⟨b2, d2, rfl, q2, p2⟩ := o2.rowx
        repeat (any_goals (
          conv => whnf
          first
          | ((with_reducible refine BIF.dec ?_ ?_) <;> intro _)
          | ((with_reducible refine BIF.s ?_ ?_) <;> intro _)
          | (with_reducible refine NEXTK.normal ?_)
          | (with_reducible refine NEXTK.ret ?_)
          | (with_reducible refine NEXTK.exit ?_)
          | (with_reducible refine SEQ.plain ?_)
          | (with_reducible refine hK _ _ ?_)
          | ((with_reducible refine RUNL.agg (fun _ => ?_) ?_); (focus kernel_rfl))
          | (with_reducible refine RUNL.run ?_)
          | ((with_reducible refine AR.ok ?_ ?_); exact ⟨by first | omega | (dsimp only; omega), by first | omega | (dsimp only; omega)⟩)
          | (with_reducible refine AR.wr ?_)
          | ((with_reducible intro w3 e3); try have z3 := cutLe e3)
          | ((with_reducible intro h3); have h4 := Nat.le_of_lt h3; clear h4)))
        refine ⟨(j + 1, (b2, _, d2)), rfl, ⟨rfl, rfl, trivial⟩, rfl, rfl, ⟨by simp only; omega, ?_, o2⟩, by simp only; omega⟩
        show w.heap.size ≤ w2.heap.size
        omega
      · have hfx : joinF fr to x = x := by simp [joinF, hxg]
        repeat (any_goals (
          conv => whnf
          first
          | ((with_reducible refine OBL.mk ?_ (fun _ => ?_)); exact ⟨by first | omega | (dsimp only; omega), by first | omega | (dsimp only; omega), his⟩)
          | ((with_reducible refine ELD.at (j) hr ?_ ?_ ?_ (fun x' hx' => ?_)); exact mAddr_Non _; (first | rfl | omega); exact hlt'; obtain rfl : x = x' := by (rw [hx] at hx'; exact Option.some.inj hx'))
          | ((with_reducible intro w3 e3); have z3 := cutLe e3; replace hown := hown.ext e3 (by first | exact fun _ _ h => h | (intro k hk h; have hh := oL k hk; simp only [bk] at h; omega)))
          | ((with_reducible refine BIF.seq ?_ ?_) <;> intro hsq)
          | ((exfalso; exact hxg hsq))
          | ((with_reducible refine bsS elemGft [.agg (encGft x).toArray] ?_ ?_ ?_ ?_ ?_); (focus rfl); (focus rfl); (focus (intro v hv; simp at hv; subst hv; rfl)); (focus omega); intro w9 e9 oB; have z9 := cutLe e9; (try replace oC := oC.e0 e9))
          | ((with_reducible refine BIF.dec ?_ ?_) <;> intro _)
          | ((with_reducible refine BIF.s ?_ ?_) <;> intro _)
          | (with_reducible refine NEXTK.normal ?_)
          | (with_reducible refine NEXTK.ret ?_)
          | (with_reducible refine NEXTK.exit ?_)
          | (with_reducible refine SEQ.plain ?_)
          | (with_reducible refine hK _ _ ?_)
          | ((with_reducible refine RUNL.agg (fun _ => ?_) ?_); (focus kernel_rfl))
          | (with_reducible refine RUNL.run ?_)
          | ((with_reducible refine AR.ok ?_ ?_); exact ⟨by first | omega | (dsimp only; omega), by first | omega | (dsimp only; omega)⟩)
          | (with_reducible refine AR.wr ?_)
          | ((with_reducible intro w3 e3); try have z3 := cutLe e3)
          | ((with_reducible intro h3); have h4 := Nat.le_of_lt h3; clear h4)))
        conv => whnf
        replace hown := hown.e0 e9
        refine apS (ns := [encGft (joinF fr to x)]) elemGft hown (by rw [hfx]; exact oB.row.1) rfl (by intro l hl; simp at hl; subst hl; rfl) ⟨by simp; omega, by simp; omega⟩ ⟨(by show w.heap.size ≤ _; omega), by omega⟩ ⟨fun h => by have := (oL _ h).2; dsimp only at this; omega, trivial⟩ (fun v2 w2 x2 o2 => ?_)
        have z2 := cutLe x2
        replace o2 : Own w2 w.heap.size 63 5 v2 (((xs.take (j + 1)).map (joinF fr to)).map encGft) := by rw [hsn]; simpa using o2
        obtain ⟨b2, d2, rfl, q2, p2⟩ := o2.rowx
        repeat (any_goals (
          conv => whnf
          first
          | ((with_reducible refine BIF.dec ?_ ?_) <;> intro _)
          | ((with_reducible refine BIF.s ?_ ?_) <;> intro _)
          | (with_reducible refine NEXTK.normal ?_)
          | (with_reducible refine NEXTK.ret ?_)
          | (with_reducible refine NEXTK.exit ?_)
          | (with_reducible refine SEQ.plain ?_)
          | (with_reducible refine hK _ _ ?_)
          | ((with_reducible refine RUNL.agg (fun _ => ?_) ?_); (focus kernel_rfl))
          | (with_reducible refine RUNL.run ?_)
          | ((with_reducible refine AR.ok ?_ ?_); exact ⟨by first | omega | (dsimp only; omega), by first | omega | (dsimp only; omega)⟩)
          | (with_reducible refine AR.wr ?_)
          | ((with_reducible intro w3 e3); try have z3 := cutLe e3)
          | ((with_reducible intro h3); have h4 := Nat.le_of_lt h3; clear h4)))
        refine ⟨(j + 1, (b2, _, d2)), rfl, ⟨rfl, rfl, trivial⟩, rfl, rfl, ⟨by simp only; omega, ?_, o2⟩, by simp only; omega⟩
        show w.heap.size ≤ w2.heap.size
        omega
    · have hkj : j = xs.length := by simp only at hlt; omega
      rw [hkj, List.take_length] at hown
      repeat (any_goals (
        conv => whnf
        first
        | ((with_reducible refine BIF.dec ?_ ?_) <;> intro _)
        | ((with_reducible refine BIF.s ?_ ?_) <;> intro _)
        | (with_reducible refine NEXTK.normal ?_)
        | (with_reducible refine NEXTK.ret ?_)
        | (with_reducible refine NEXTK.exit ?_)
        | (with_reducible refine SEQ.plain ?_)
        | (with_reducible refine hK _ _ ?_)
        | ((with_reducible refine RUNL.agg (fun _ => ?_) ?_); (focus kernel_rfl))
        | (with_reducible refine RUNL.run ?_)
        | ((with_reducible refine AR.ok ?_ ?_); exact ⟨by first | omega | (dsimp only; omega), by first | omega | (dsimp only; omega)⟩)
        | (with_reducible refine AR.wr ?_)
        | ((with_reducible intro w3 e3); try have z3 := cutLe e3)
        | ((with_reducible intro h3); have h4 := Nat.le_of_lt h3; clear h4)))
      intro hx'
      rw [hf]
      exact ⟨_, rfl, hx', _, rfl, hown⟩
  · have hf : joinP xs fr to = ([], false) := by
      unfold joinP joinOk
      rw [if_neg]
      simpa [and_assoc] using ho
    repeat (any_goals (
      conv => whnf
      first
      | ((with_reducible refine callX (g := 40) ?_ ?_); kernel_rfl; intro hX; refine ⟨_, l26Good_c _ _ _ xs _ (hr.ext hX (mAddr_Non _)) hn (by omega) hg, ?_⟩; intro w4 e4; have z4 := cutLe e4)
      | ((with_reducible refine callF (g := 49) ?_ ?_); kernel_rfl; refine ⟨_, l2Word_c _ _ (by assumption), ?_⟩; intro w4 e4; have z4 := cutLe e4)
      | ((with_reducible refine BIF.beq ?_ ?_) <;> intro _)
      | ((with_reducible refine callX (g := 50) ?_ ?_); kernel_rfl; intro hX; refine ⟨_, l26Sum_c _ _ _ xs _ _ (hr.ext hX (mAddr_Non _)) hn (by clear hK; simp_all; done), ?_⟩; intro w4 e4; have z4 := cutLe e4)
      | ((exfalso; clear hK; simp_all; done))
      | ((with_reducible refine bsS elemGft [] rfl rfl (by simp) (by omega) (fun w9 e9 o9 => ?_)); have z9 := cutLe e9)
      | ((with_reducible refine BIF.dec ?_ ?_) <;> intro _)
      | ((with_reducible refine BIF.s ?_ ?_) <;> intro _)
      | (with_reducible refine NEXTK.normal ?_)
      | (with_reducible refine NEXTK.ret ?_)
      | (with_reducible refine NEXTK.exit ?_)
      | (with_reducible refine SEQ.plain ?_)
      | (with_reducible refine hK _ _ ?_)
      | ((with_reducible refine RUNL.agg (fun _ => ?_) ?_); (focus kernel_rfl))
      | (with_reducible refine RUNL.run ?_)
      | ((with_reducible refine AR.ok ?_ ?_); exact ⟨by first | omega | (dsimp only; omega), by first | omega | (dsimp only; omega)⟩)
      | (with_reducible refine AR.wr ?_)
      | ((with_reducible intro w3 e3); try have z3 := cutLe e3)
      | ((with_reducible intro h3); have h4 := Nat.le_of_lt h3; clear h4)))
    all_goals
      intro hx'
      rw [hf]
      exact ⟨_, rfl, hx', _, rfl, o9.lo (by omega)⟩

end Go.Proofs.Ytohnoccmaeegdaa

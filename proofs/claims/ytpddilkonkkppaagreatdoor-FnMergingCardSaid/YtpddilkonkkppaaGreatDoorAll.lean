/- Alike entries made one as long as there are some. -/
import Derived.Test.YtpddilkonkkppaaGreatDoorRows
import Derived.Test.YtpddilkonkkppaaGreatDoorFirst
namespace Go.Proofs.YtpddilkonkkppaaGreatDoor
open Go Go.X Go.Proofs Go.ChangeShapes Go.WideShapes Go.ChangeAt Go.RowKit
open Go.ChangeMaps (open_string shut_string)
set_option maxHeartbeats 1000000
set_option maxRecDepth 20000
set_option linter.unusedVariables false
set_option linter.unusedSimpArgs false
def allP : Nat → List Ent → List Ent × Nat
  | 0, es => (es, 0)
  | f + 1, es => match onceP es with
    | none => (es, 0)
    | some fs => ((allP f fs).1, (allP f fs).2 + 1)
def mergeAllP (es : List Ent) : List Ent × Nat × Bool := if areE es then ((allP 12 es).1, (allP 12 es).2, true) else ([], 0, false)
theorem allP_none {es : List Ent} (h : onceP es = none) : ∀ f, allP f es = (es, 0)
  | 0 => rfl
  | f + 1 => by unfold allP; rw [h]
theorem allP_some {es fs : List Ent} (h : onceP es = some fs) (f : Nat) : allP (f + 1) es = ((allP f fs).1, (allP f fs).2 + 1) := by
  conv => lhs; unfold allP
  rw [h]
theorem once_next {es fs : List Ent} (h : onceP es = some fs) : areE fs = true ∧ fs.length + 1 = es.length := by
  obtain ⟨i, k, hik, hk, ho, rfl⟩ := onceP_some h
  refine ⟨?_, mergeP_len (by omega) hk⟩
  unfold okPair at ho
  rw [Bool.and_eq_true] at ho
  exact ho.2
theorem first_form {o : Option (List Ent)} {s : Value} {a : Option Addr} {n c : Nat} {ts us : List Tri} {w : World} {lo : Nat} (hn : ts.length = n) (h1 : o = none → s = .slice a n c ∧ us = ts) (h2 : o.isSome = true → OwnT w lo s us) : ∃ a2 c2, s = .slice a2 us.length c2 := by
  cases o with
  | none =>
    obtain ⟨rfl, rfl⟩ := h1 rfl
    exact ⟨a, c, by rw [hn]⟩
  | some fs =>
    obtain ⟨a2, c2, rfl, -⟩ := (h2 rfl).rowx
    exact ⟨a2, c2, rfl⟩
theorem OwnT.nil (w : World) (lo : Nat) : OwnT w lo (.slice none 0 0) [] := OwnT.mk' (Own.nil _ _ _ _) (by simp) List.Pairwise.nil
theorem mergeAll_len (es : List Ent) : ∀ f, (allP f es).1.length ≤ es.length ∧ (allP f es).2 ≤ f := by
  intro f
  induction f generalizing es with
  | zero => exact ⟨Nat.le_refl _, Nat.le_refl _⟩
  | succ f ih =>
    cases h : onceP es with
    | none => rw [allP_none h]; exact ⟨Nat.le_refl _, Nat.zero_le _⟩
    | some fs =>
      rw [allP_some h]
      have := ih fs
      have := (once_next h).2
      constructor <;> dsimp only <;> omega
structure Gs where
  cnt : Nat
  us : List Tri
  a1 : Option Addr
  c1 : Nat
  vs : List Tri
  a2 : Option Addr
  c2 : Nat
def InvA (lo : Nat) (es : List Ent) (g : Gs) (wr : World) : Prop :=
  OwnT wr lo (.slice g.a1 g.us.length g.c1) g.us ∧ areE (g.us.map (·.1)) = true ∧ g.vs.map (·.1) = nextP (g.us.map (·.1)) ∧ ((onceP (g.us.map (·.1))).isSome = true → OwnT wr lo (.slice g.a2 g.vs.length g.c2) g.vs) ∧
  g.cnt + g.us.length ≤ 12 ∧ allP 12 es = ((allP (12 - g.cnt) (g.us.map (·.1))).1, g.cnt + (allP (12 - g.cnt) (g.us.map (·.1))).2) ∧ lo ≤ wr.heap.size
/-- what the next round starts from. -/
theorem InvA.next {lo : Nat} {es : List Ent} {g : Gs} {wr : World} (h : InvA lo es g wr) (hs : (onceP (g.us.map (·.1))).isSome = true) :
    OwnT wr lo (.slice g.a2 g.vs.length g.c2) g.vs ∧ areE (g.vs.map (·.1)) = true ∧ g.vs.length + 1 = g.us.length ∧ g.cnt + 1 + g.vs.length ≤ 12 ∧ allP 12 es = ((allP (12 - (g.cnt + 1)) (g.vs.map (·.1))).1, g.cnt + 1 + (allP (12 - (g.cnt + 1)) (g.vs.map (·.1))).2) := by
  obtain ⟨h1, h2, h3, h4, h5, h6, h7⟩ := h
  obtain ⟨fs, hfs⟩ := Option.isSome_iff_exists.1 hs
  have hn := once_next hfs
  have hv : g.vs.map (·.1) = fs := by rw [h3, nextP, hfs]; rfl
  have hl : g.vs.length + 1 = g.us.length := by
    have e1 := congrArg List.length hv
    rw [List.length_map] at e1
    have e2 := hn.2
    rw [List.length_map] at e2
    omega
  refine ⟨h4 hs, by rw [hv]; exact hn.1, hl, by omega, ?_⟩
  have e : 12 - g.cnt = (12 - (g.cnt + 1)) + 1 := by omega
  rw [e, allP_some hfs] at h6
  rw [h6, hv]
  dsimp only
  congr 1
  omega
theorem InvA.done {lo : Nat} {es : List Ent} {g : Gs} {wr : World} (h : InvA lo es g wr) (hs : (onceP (g.us.map (·.1))).isSome = false) : allP 12 es = (g.us.map (·.1), g.cnt) := by
  obtain ⟨h1, h2, h3, h4, h5, h6, h7⟩ := h
  have hn : onceP (g.us.map (·.1)) = none := by
    cases ho : onceP (g.us.map (·.1)) with
    | none => rfl
    | some fs => rw [ho] at hs; cases hs
  rw [h6, allP_none hn]
  rfl
theorem MergeAlike_c (a : Option Addr) (n c : Nat) (ts : List Tri) (w : World) (hr : Row w a 6 (ts.map encT)) (hs : SeenAt w ts) (hn : ts.length = n) (hm : n ≤ 1048577) (hc : n ≤ c) (hz : ∀ t ∈ ts, t.1.fSeen.length ≤ 1048577) :
    Calls Tryz.prog 25 #[.slice a n c] w fun e w' => ∃ v, e = .returned v ∧ E0 w w' ∧ ∃ s us, v = .tuple #[s, .int .i64 (mergeAllP (ts.map (·.1))).2.1, .bool (mergeAllP (ts.map (·.1))).2.2] ∧ us.map (·.1) = (mergeAllP (ts.map (·.1))).1 ∧ OwnT w' w.heap.size s us := by
  refine enterK Non 30 Tryz.func25 rfl rfl rfl fun K hK => ?_
  obtain ⟨es, hes⟩ : ∃ es, es = ts.map (·.1) := ⟨_, rfl⟩
  cases hA : areE es with
  | false =>
    have hf : mergeAllP es = ([], 0, false) := by unfold mergeAllP; rw [hA]; rfl
    rw [hes] at hA
    repeat (any_goals (
      conv => whnf
      first
      | ((with_reducible refine callF (g := 19) ?_ ?_); kernel_rfl; refine ⟨_, AreEntries_c _ _ _ ts _ (by repeat (first | assumption | refine Row.e0 ?_ (by assumption))) (by exact hs) hn hm hc hz, ?_⟩; intro w4 e4; have z4 := cutLe e4)
      | ((with_reducible refine BIF.s (fun h => absurd h ?_) (fun _ => ?_)); focus (simp [hA]; done))
      | ((with_reducible refine BIF.s (fun _ => ?_) (fun h => absurd h ?_)); rotate_left; focus (simp [hA]; done))
      | ((with_reducible refine BIF.dec ?_ ?_) <;> intro _)
      | ((with_reducible refine BIF.s ?_ ?_) <;> intro _)
      | (with_reducible refine NEXTK.normal ?_)
      | (with_reducible refine NEXTK.ret ?_)
      | (with_reducible refine NEXTK.exit ?_)
      | (with_reducible refine SEQ.plain ?_)
      | (with_reducible refine hK _ _ ?_)
      | ((with_reducible refine RUNL.agg (fun _ => ?_) ?_); (focus kernel_rfl))
      | (with_reducible refine RUNL.run ?_)
      | ((with_reducible refine AR.ok ?_ ?_); exact ⟨by first | omega | (dsimp only; omega), by first | omega | (dsimp only; omega)⟩)
      | (with_reducible refine AR.wr ?_)
      | ((with_reducible intro w3 e3); try have z3 := cutLe e3)
      | ((with_reducible intro h3); have h4 := Nat.le_of_lt h3; clear h4)))
    intro hx'
    rw [← hes, hf]
    exact ⟨_, rfl, hx', _, [], rfl, rfl, OwnT.nil _ _⟩
  | true =>
    have hf : mergeAllP es = ((allP 12 es).1, (allP 12 es).2, true) := by unfold mergeAllP; rw [hA]; rfl
    have hl12 := areE_len hA
    rw [hes, List.length_map] at hl12
    have hA' := hA
    rw [hes] at hA'
    repeat (any_goals (
      conv => whnf
      first
      | ((with_reducible refine callF (g := 19) ?_ ?_); kernel_rfl; refine ⟨_, AreEntries_c _ _ _ ts _ (by repeat (first | assumption | refine Row.e0 ?_ (by assumption))) (by exact hs) hn hm hc hz, ?_⟩; intro w4 e4; have z4 := cutLe e4)
      | ((with_reducible refine BIF.s (fun h => absurd h ?_) (fun _ => ?_)); focus (simp [hA']; done))
      | ((with_reducible refine BIF.s (fun _ => ?_) (fun h => absurd h ?_)); rotate_left; focus (simp [hA']; done))
      | ((with_reducible refine BIF.dec ?_ ?_) <;> intro _)
      | ((with_reducible refine BIF.s ?_ ?_) <;> intro _)
      | (with_reducible refine NEXTK.normal ?_)
      | (with_reducible refine NEXTK.ret ?_)
      | (with_reducible refine NEXTK.exit ?_)
      | (with_reducible refine SEQ.plain ?_)
      | (with_reducible refine hK _ _ ?_)
      | ((with_reducible refine RUNL.agg (fun _ => ?_) ?_); (focus kernel_rfl))
      | (with_reducible refine RUNL.run ?_)
      | ((with_reducible refine AR.ok ?_ ?_); exact ⟨by first | omega | (dsimp only; omega), by first | omega | (dsimp only; omega)⟩)
      | (with_reducible refine AR.wr ?_)
      | ((with_reducible intro w3 e3); try have z3 := cutLe e3)
      | ((with_reducible intro h3); have h4 := Nat.le_of_lt h3; clear h4)))
    conv => whnf
    refine callY (g := 53) (by kernel_rfl) ⟨_, fun hX => copyEntries_c a n c ts _ (hr.ext hX (mAddr_Non _)) (fun t ht => (hs t ht).ext hX (mAddr_Non _)) hn hm hz, fun r w1 e1 h1 => ?_⟩
    obtain ⟨us, hus, hO⟩ := h1
    have z1 := cutLe e1
    have hul : us.length = n := by have := congrArg List.length hus; simpa [hn] using this
    replace hO := hO.lo (lo' := w.heap.size) (by omega)
    obtain ⟨a1, c1, rfl, -⟩ := hO.rowx
    have hue : us.map (·.1) = es := by rw [hus, hes]
    have hAu : areE (us.map (·.1)) = true := by rw [hue]; exact hA
    repeat (any_goals (
      conv => whnf
      first
      | ((with_reducible refine callY (g := 54) ?_ ?_); kernel_rfl; refine ⟨_, fun hX => mergeFirst_c _ _ _ us _ hO.top.row.1 hO.seen rfl hAu, ?_⟩; intro r5 w5 e5 h5; have z5 := cutLe e5; obtain ⟨s, vs, rfl, hvs, hv1, hv2⟩ := h5; obtain ⟨a2, c2, rfl⟩ := first_form rfl hv1 hv2; replace hO := hO.e0 e5)
      | ((with_reducible refine BIF.dec ?_ ?_) <;> intro _)
      | ((with_reducible refine BIF.s ?_ ?_) <;> intro _)
      | (with_reducible refine NEXTK.normal ?_)
      | (with_reducible refine NEXTK.ret ?_)
      | (with_reducible refine NEXTK.exit ?_)
      | (with_reducible refine SEQ.plain ?_)
      | (with_reducible refine hK _ _ ?_)
      | ((with_reducible refine RUNL.agg (fun _ => ?_) ?_); (focus kernel_rfl))
      | (with_reducible refine RUNL.run ?_)
      | ((with_reducible refine AR.ok ?_ ?_); exact ⟨by first | omega | (dsimp only; omega), by first | omega | (dsimp only; omega)⟩)
      | (with_reducible refine AR.wr ?_)
      | ((with_reducible intro w3 e3); try have z3 := cutLe e3)
      | ((with_reducible intro h3); have h4 := Nat.le_of_lt h3; clear h4)))
    conv => whnf
    refine LOOP.mk Gs (fun g => [(5, .v (.slice g.a1 g.us.length g.c1)), (6, .v (.int .i64 g.cnt)), (7, .v (.slice g.a2 g.vs.length g.c2)), (8, .v (.bool (onceP (g.us.map (·.1))).isSome))]) (InvA w.heap.size es) (fun g => g.us.length) ⟨0, us, a1, c1, vs, a2, c2⟩ rfl ⟨rfl, rfl, rfl, rfl, trivial⟩
      ⟨hO, hAu, hvs, fun h => (hv2 h).lo (by omega), by dsimp only; omega, by dsimp only; rw [hue]; simp, by dsimp only; omega⟩ ?_
    clear hO hv1 hv2 hvs hAu
    rintro g wr hX0 hJ
    have hlw : w.heap.size ≤ wr.heap.size := cutLe hX0
    repeat (any_goals (
      conv => whnf
      first
      | ((with_reducible refine BIF.s (fun (hgo : (onceP (g.us.map (·.1))).isSome = true) => ?_) (fun (hgo : (onceP (g.us.map (·.1))).isSome = false) => ?_)); (try obtain ⟨hV, hAv, hvl, hcn, hall⟩ := hJ.next hgo))
      | ((with_reducible refine callY (g := 54) ?_ ?_); kernel_rfl; refine ⟨_, fun hX => mergeFirst_c _ _ _ g.vs _ hV.top.row.1 hV.seen rfl hAv, ?_⟩; intro r5 w5 e5 h5; have z5 := cutLe e5; obtain ⟨s, vs, rfl, hvs, hv1, hv2⟩ := h5; obtain ⟨a3, c3, rfl⟩ := first_form rfl hv1 hv2; replace hV := hV.e0 e5)
      | ((with_reducible refine BIF.dec ?_ ?_) <;> intro _)
      | ((with_reducible refine BIF.s ?_ ?_) <;> intro _)
      | (with_reducible refine NEXTK.normal ?_)
      | (with_reducible refine NEXTK.ret ?_)
      | (with_reducible refine NEXTK.exit ?_)
      | (with_reducible refine SEQ.plain ?_)
      | (with_reducible refine hK _ _ ?_)
      | ((with_reducible refine RUNL.agg (fun _ => ?_) ?_); (focus kernel_rfl))
      | (with_reducible refine RUNL.run ?_)
      | ((with_reducible refine AR.ok ?_ ?_); exact ⟨by first | omega | (dsimp only; omega), by first | omega | (dsimp only; omega)⟩)
      | (with_reducible refine AR.wr ?_)
      | ((with_reducible intro w3 e3); try have z3 := cutLe e3)
      | ((with_reducible intro h3); have h4 := Nat.le_of_lt h3; clear h4)))
    · exact ⟨⟨g.cnt + 1, g.vs, g.a2, g.c2, vs, a3, c3⟩, rfl, ⟨rfl, rfl, rfl, rfl, trivial⟩, rfl, rfl, ⟨hV, hAv, hvs, fun h => (hv2 h).lo (by omega), hcn, hall, (by dsimp only; omega)⟩, by dsimp only; omega⟩
    · intro hx'
      have hd := hJ.done hgo
      rw [← hes, hf, hd]
      exact ⟨_, rfl, hx', _, g.us, rfl, rfl, (by repeat (first | exact hJ.1 | refine OwnT.e0 ?_ (by assumption)))⟩
theorem okW_size {s : ByteArray} (h : okW s = true) : s.size ≤ 9223372036854775807 := by
  unfold okW at h
  rw [Bool.and_eq_true] at h
  have := inB_iff.1 h.1
  omega
theorem sizT_of {ts : List Tri} (hA : areE (ts.map (·.1)) = true) : sizT ts := fun t ht => by
  obtain ⟨k, hk⟩ := List.getElem?_of_mem ht
  have ho := (areE_at hA (fst_at hk)).1
  have h1 := (okE_facts ho).1
  unfold okE at ho
  simp only [Bool.and_eq_true, Bool.or_eq_true, decide_eq_true_eq] at ho
  refine ⟨by omega, okW_size ho.1.1.1.2, ?_⟩
  rcases ho.1.1.2 with h | h
  · rw [h]; decide
  · exact okW_size h
theorem sizT_eq {ts us : List Tri} (hg : sizT ts) (h : us.map (·.1) = ts.map (·.1)) : sizT us := fun t ht => by
  have : t.1 ∈ ts.map (·.1) := by rw [← h]; exact List.mem_map_of_mem ht
  obtain ⟨t', h1, h2⟩ := List.mem_map.1 this
  rw [← h2]
  exact hg t' h1
theorem MergeAlikeS_c (a : Option Addr) (n c : Nat) (ts : List Tri) (w : World) (hr : Row w a 6 (ts.map encT)) (hs : SeenAt w ts) (hn : ts.length = n) (hm : n ≤ 1048577) (hg : sizT ts) :
    Calls Tryz.prog 26 #[.slice a n c] w fun e w' => ∃ v, e = .returned v ∧ E0 w w' ∧ ∃ s us, v = .tuple #[s, .int .i64 (mergeAllP (ts.map (·.1))).2.1, .bool (mergeAllP (ts.map (·.1))).2.2] ∧ us.map (·.1) = (mergeAllP (ts.map (·.1))).1 ∧ OwnT w' w.heap.size s us := by
  refine enterK Non 31 Tryz.func26 rfl rfl rfl fun K hK => ?_
  obtain ⟨es, hes⟩ : ∃ es, es = ts.map (·.1) := ⟨_, rfl⟩
  cases hA : areE es with
  | false =>
    have hf : mergeAllP es = ([], 0, false) := by unfold mergeAllP; rw [hA]; rfl
    rw [hes] at hA
    repeat (any_goals (
      conv => whnf
      first
      | ((with_reducible refine bsS elemT [] rfl rfl (by simp) (by omega) (fun w9 e9 o9 => ?_)); have z9 := cutLe e9)
      | ((with_reducible refine callF (g := 50) ?_ ?_); kernel_rfl; refine ⟨_, l25Good_c _ _ _ ts _ (by repeat (first | assumption | refine Row.e0 ?_ (by assumption))) (by exact hs) hn hm hg, ?_⟩; intro w4 e4; have z4 := cutLe e4)
      | ((with_reducible refine BIF.s (fun h => absurd h ?_) (fun _ => ?_)); focus (simp [hA]; done))
      | ((with_reducible refine BIF.s (fun _ => ?_) (fun h => absurd h ?_)); rotate_left; focus (simp [hA]; done))
      | ((with_reducible refine BIF.dec ?_ ?_) <;> intro _)
      | ((with_reducible refine BIF.s ?_ ?_) <;> intro _)
      | (with_reducible refine NEXTK.normal ?_)
      | (with_reducible refine NEXTK.ret ?_)
      | (with_reducible refine NEXTK.exit ?_)
      | (with_reducible refine SEQ.plain ?_)
      | (with_reducible refine hK _ _ ?_)
      | ((with_reducible refine RUNL.agg (fun _ => ?_) ?_); (focus kernel_rfl))
      | (with_reducible refine RUNL.run ?_)
      | ((with_reducible refine AR.ok ?_ ?_); exact ⟨by first | omega | (dsimp only; omega), by first | omega | (dsimp only; omega)⟩)
      | (with_reducible refine AR.wr ?_)
      | ((with_reducible intro w3 e3); try have z3 := cutLe e3)
      | ((with_reducible intro h3); have h4 := Nat.le_of_lt h3; clear h4)))
    intro hx'
    rw [← hes, hf]
    exact ⟨_, rfl, hx', _, [], rfl, rfl, OwnT.mk' ((by clear hx'; repeat (first | exact o9 | exact o9.lo (by omega) | refine Own.e0 ?_ (by assumption)))) (by simp) List.Pairwise.nil⟩
  | true =>
    have hf : mergeAllP es = ((allP 12 es).1, (allP 12 es).2, true) := by unfold mergeAllP; rw [hA]; rfl
    have hl12 := areE_len hA
    rw [hes, List.length_map] at hl12
    have hA' := hA
    rw [hes] at hA'
    repeat (any_goals (
      conv => whnf
      first
      | ((with_reducible refine callF (g := 50) ?_ ?_); kernel_rfl; refine ⟨_, l25Good_c _ _ _ ts _ (by repeat (first | assumption | refine Row.e0 ?_ (by assumption))) (by exact hs) hn hm hg, ?_⟩; intro w4 e4; have z4 := cutLe e4)
      | ((with_reducible refine BIF.s (fun h => absurd h ?_) (fun _ => ?_)); focus (simp [hA']; done))
      | ((with_reducible refine BIF.s (fun _ => ?_) (fun h => absurd h ?_)); rotate_left; focus (simp [hA']; done))
      | ((with_reducible refine BIF.dec ?_ ?_) <;> intro _)
      | ((with_reducible refine BIF.s ?_ ?_) <;> intro _)
      | (with_reducible refine NEXTK.normal ?_)
      | (with_reducible refine NEXTK.ret ?_)
      | (with_reducible refine NEXTK.exit ?_)
      | (with_reducible refine SEQ.plain ?_)
      | (with_reducible refine hK _ _ ?_)
      | ((with_reducible refine RUNL.agg (fun _ => ?_) ?_); (focus kernel_rfl))
      | (with_reducible refine RUNL.run ?_)
      | ((with_reducible refine AR.ok ?_ ?_); exact ⟨by first | omega | (dsimp only; omega), by first | omega | (dsimp only; omega)⟩)
      | (with_reducible refine AR.wr ?_)
      | ((with_reducible intro w3 e3); try have z3 := cutLe e3)
      | ((with_reducible intro h3); have h4 := Nat.le_of_lt h3; clear h4)))
    conv => whnf
    refine callY (g := 55) (by kernel_rfl) ⟨_, fun hX => l25Own_c a n c ts _ (hr.ext hX (mAddr_Non _)) (fun t ht => (hs t ht).ext hX (mAddr_Non _)) hn hm (fun t ht => (hg t ht).1), fun r w1 e1 h1 => ?_⟩
    obtain ⟨us, hus, hO⟩ := h1
    have z1 := cutLe e1
    have hul : us.length = n := by have := congrArg List.length hus; simpa [hn] using this
    replace hO := hO.lo (lo' := w.heap.size) (by omega)
    obtain ⟨a1, c1, rfl, -⟩ := hO.rowx
    have hue : us.map (·.1) = es := by rw [hus, hes]
    have hAu : areE (us.map (·.1)) = true := by rw [hue]; exact hA
    repeat (any_goals (
      conv => whnf
      first
      | ((with_reducible refine callY (g := 56) ?_ ?_); kernel_rfl; refine ⟨_, fun hX => l25Once_c _ _ _ us _ hO.top.row.1 hO.seen rfl (sizT_eq hg hus) hAu, ?_⟩; intro r5 w5 e5 h5; have z5 := cutLe e5; obtain ⟨s, vs, rfl, hvs, hv1, hv2⟩ := h5; obtain ⟨a2, c2, rfl⟩ := first_form rfl hv1 hv2; replace hO := hO.e0 e5)
      | ((with_reducible refine BIF.dec ?_ ?_) <;> intro _)
      | ((with_reducible refine BIF.s ?_ ?_) <;> intro _)
      | (with_reducible refine NEXTK.normal ?_)
      | (with_reducible refine NEXTK.ret ?_)
      | (with_reducible refine NEXTK.exit ?_)
      | (with_reducible refine SEQ.plain ?_)
      | (with_reducible refine hK _ _ ?_)
      | ((with_reducible refine RUNL.agg (fun _ => ?_) ?_); (focus kernel_rfl))
      | (with_reducible refine RUNL.run ?_)
      | ((with_reducible refine AR.ok ?_ ?_); exact ⟨by first | omega | (dsimp only; omega), by first | omega | (dsimp only; omega)⟩)
      | (with_reducible refine AR.wr ?_)
      | ((with_reducible intro w3 e3); try have z3 := cutLe e3)
      | ((with_reducible intro h3); have h4 := Nat.le_of_lt h3; clear h4)))
    conv => whnf
    refine LOOP.mk Gs (fun g => [(5, .v (.slice g.a1 g.us.length g.c1)), (6, .v (.int .i64 g.cnt)), (7, .v (.slice g.a2 g.vs.length g.c2)), (8, .v (.bool (onceP (g.us.map (·.1))).isSome))]) (InvA w.heap.size es) (fun g => g.us.length) ⟨0, us, a1, c1, vs, a2, c2⟩ rfl ⟨rfl, rfl, rfl, rfl, trivial⟩
      ⟨hO, hAu, hvs, fun h => (hv2 h).lo (by omega), by dsimp only; omega, by dsimp only; rw [hue]; simp, by dsimp only; omega⟩ ?_
    clear hO hv1 hv2 hvs hAu
    rintro g wr hX0 hJ
    have hlw : w.heap.size ≤ wr.heap.size := cutLe hX0
    repeat (any_goals (
      conv => whnf
      first
      | ((with_reducible refine BIF.s (fun (hgo : (onceP (g.us.map (·.1))).isSome = true) => ?_) (fun (hgo : (onceP (g.us.map (·.1))).isSome = false) => ?_)); (try obtain ⟨hV, hAv, hvl, hcn, hall⟩ := hJ.next hgo))
      | ((with_reducible refine callY (g := 56) ?_ ?_); kernel_rfl; refine ⟨_, fun hX => l25Once_c _ _ _ g.vs _ hV.top.row.1 hV.seen rfl (sizT_of hAv) hAv, ?_⟩; intro r5 w5 e5 h5; have z5 := cutLe e5; obtain ⟨s, vs, rfl, hvs, hv1, hv2⟩ := h5; obtain ⟨a3, c3, rfl⟩ := first_form rfl hv1 hv2; replace hV := hV.e0 e5)
      | ((with_reducible refine BIF.dec ?_ ?_) <;> intro _)
      | ((with_reducible refine BIF.s ?_ ?_) <;> intro _)
      | (with_reducible refine NEXTK.normal ?_)
      | (with_reducible refine NEXTK.ret ?_)
      | (with_reducible refine NEXTK.exit ?_)
      | (with_reducible refine SEQ.plain ?_)
      | (with_reducible refine hK _ _ ?_)
      | ((with_reducible refine RUNL.agg (fun _ => ?_) ?_); (focus kernel_rfl))
      | (with_reducible refine RUNL.run ?_)
      | ((with_reducible refine AR.ok ?_ ?_); exact ⟨by first | omega | (dsimp only; omega), by first | omega | (dsimp only; omega)⟩)
      | (with_reducible refine AR.wr ?_)
      | ((with_reducible intro w3 e3); try have z3 := cutLe e3)
      | ((with_reducible intro h3); have h4 := Nat.le_of_lt h3; clear h4)))
    · exact ⟨⟨g.cnt + 1, g.vs, g.a2, g.c2, vs, a3, c3⟩, rfl, ⟨rfl, rfl, rfl, rfl, trivial⟩, rfl, rfl, ⟨hV, hAv, hvs, fun h => (hv2 h).lo (by omega), hcn, hall, (by dsimp only; omega)⟩, by dsimp only; omega⟩
    · intro hx'
      have hd := hJ.done hgo
      rw [← hes, hf, hd]
      exact ⟨_, rfl, hx', _, g.us, rfl, rfl, (by repeat (first | exact hJ.1 | refine OwnT.e0 ?_ (by assumption)))⟩

end Go.Proofs.YtpddilkonkkppaaGreatDoor

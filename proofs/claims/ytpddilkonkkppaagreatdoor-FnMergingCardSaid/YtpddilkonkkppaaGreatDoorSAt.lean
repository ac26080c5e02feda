/- Two entries of a list made one, as the specification has it. -/
import Derived.Test.YtpddilkonkkppaaGreatDoorRows
import Derived.Test.YtpddilkonkkppaaGreatDoorPut
import Derived.Test.YtpddilkonkkppaaGreatDoorAt
namespace Go.Proofs.YtpddilkonkkppaaGreatDoor
open Go Go.X Go.Proofs Go.ChangeShapes Go.WideShapes Go.ChangeAt Go.RowKit
open Go.ChangeMaps (open_string shut_string)
set_option maxHeartbeats 1000000
set_option maxRecDepth 20000
set_option linter.unusedVariables false
set_option linter.unusedSimpArgs false
theorem rowPreT {w : World} {p : Option Addr} {L : List Tri} {k e : Nat} (h : Row w p 6 (L.map encT)) (hk : (k : Int) ≤ e) : Row w (if (e : Int).toNat = Int.toNat 0 then p else p.map (·.add (Int.toNat 0 * 6))) 6 ((L.take k).map encT) := by
  have := h.sub 0 (k : Int) (e : Int) hk
  simpa using this
theorem OwnT.ext {w w' : World} {m : Nat → Prop} {lo : Nat} {v : Value} {ts : List Tri} (h : OwnT w lo v ts) (x : Ext m w w') (hm : ∀ b, blksT v ts b → ¬ m b) : OwnT w' lo v ts :=
  ⟨h.top.ext x (fun b hb => hm b (.inl hb)), fun t ht => (h.sub t ht).ext x (fun b hb => hm b (.inr ⟨t, ht, hb⟩)), h.off, h.two⟩
theorem OwnT.blk {w : World} {lo : Nat} {v : Value} {ts : List Tri} (h : OwnT w lo v ts) (b : Nat) (hb : blksT v ts b) : lo ≤ b ∧ b < w.heap.size := by
  rcases hb with hb | ⟨t, ht, hb⟩
  · exact h.top.block hb
  · exact (h.sub t ht).block hb
theorem sizT_merge {ts us : List Tri} {x y r : Tri} {i k : Nat} (hg : sizT ts) (hz : ∀ t ∈ ts, t.1.fSeen.length ≤ 1000) (hus : us.map (·.1) = ts.map (·.1)) (hx : x ∈ ts) (hy : y ∈ ts) (hr : r.1 = mergedE x.1 y.1) : sizT ((us.set i r).eraseIdx k) := by
  intro t ht
  rcases mem_erase_set ht with rfl | ht
  · have h1 := hz x hx
    have h2 := hz y hy
    have h3 := hg x hx
    have h4 := hg y hy
    rw [hr]
    refine ⟨?_, h3.2.1, ?_⟩
    · simp only [mergedE, sortI_len, List.length_append, List.length_cons, List.length_nil]; omega
    · simp only [mergedE]
      split
      · exact h4.2.2
      · exact h3.2.2
  · have : t.1 ∈ ts.map (·.1) := by rw [← hus]; exact List.mem_map_of_mem ht
    obtain ⟨t', h1, h2⟩ := List.mem_map.1 this
    have := hg t' h1
    rw [← h2]; exact this
theorem l25Merged_c (a : Option Addr) (n c i k : Nat) (ts : List Tri) (x y : Tri) (w : World) (hr : Row w a 6 (ts.map encT)) (hs : SeenAt w ts) (hn : ts.length = n) (hm : n ≤ 1000) (hx : ts[i]? = some x) (hy : ts[k]? = some y)
    (hz : ∀ t ∈ ts, t.1.fSeen.length ≤ 1000) (hg : sizT ts) (hc : ∀ t ∈ ts, 0 ≤ t.1.fCount ∧ t.1.fCount ≤ 1000000) (hup : Up x.1.fSeen) (hnd : (x.1.fSeen ++ y.1.fSeen ++ [y.1.fId]).Nodup) :
    Calls Tryz.prog 33 #[.slice a n c, .int .i64 i, .int .i64 k] w fun e w' => ∃ v, e = .returned v ∧ E0 w w' ∧ ∃ s us, v = .tuple #[s, .bool (areE (mergeP (ts.map (·.1)) i k))] ∧ us.map (·.1) = mergeP (ts.map (·.1)) i k ∧ OwnT w' w.heap.size s us := by
  refine enterK Non 88 Tryz.func33 rfl rfl rfl fun K hK => ?_
  have hlt1 : i < ts.length := (List.getElem?_eq_some_iff.1 hx).1
  have hlt2 : k < ts.length := (List.getElem?_eq_some_iff.1 hy).1
  have his := hr.isSome (by simp; omega)
  have hmx := List.mem_of_getElem? hx
  have hmy := List.mem_of_getElem? hy
  have hzx := hz x hmx
  have hzy := hz y hmy
  have hcx := hc x hmx
  have hcy := hc y hmy
  have hrt := hs y hmy
  repeat (any_goals (
    conv => whnf
    first
    | ((with_reducible refine BIF.dec ?_ ?_) <;> intro _)
    | ((with_reducible refine BIF.s ?_ ?_) <;> intro _)
    | (with_reducible refine NEXTK.normal ?_)
    | (with_reducible refine NEXTK.ret ?_)
    | (with_reducible refine NEXTK.exit ?_)
    | (with_reducible refine SEQ.plain ?_)
    | (with_reducible refine hK _ _ ?_)
    | ((with_reducible refine RUNL.agg (fun _ => ?_) ?_); (focus kernel_rfl))
    | (with_reducible refine RUNL.run ?_)
    | ((with_reducible refine AR.ok ?_ ?_); exact ⟨by first | omega | (dsimp only; omega), by first | omega | (dsimp only; omega)⟩)
    | (with_reducible refine AR.wr ?_)
    | ((with_reducible intro w3 e3); try have z3 := cutLe e3)
    | ((with_reducible intro h3); have h4 := Nat.le_of_lt h3; clear h4)))
  conv => whnf
  (with_reducible refine DRAW.held (id := 1) (Non) [0, 1, 2, 3, 4, 5, 6, 7] (.start (.alt 8 (.start (.alt 9 (.start (.alt 10 (.start (.alt 11 .done .stop)) .stop)) .stop)) (.alt 9 (.start (.alt 8 (.start (.alt 10 (.start (.alt 11 .done .stop)) .stop)) .stop)) .stop))) ?_ ?_ ?_ ?_); kernel_rfl; kernel_rfl; kernel_rfl
  intro w3 e3 hE
  have z3 := cutLe e3
  repeat (any_goals (
    conv => whnf
    first
    | ((with_reducible intro w3 e3); have z3 := cutLe e3; replace hE := hE.trans' e3 (fun k hk h => by first | exact False.elim h | exact h | (exfalso; simp only [bk] at h; omega) | (simp only [bk] at h; omega)))
    | ((with_reducible refine And.intro ?_ ?_); (focus (first | exact mAddr_Non _ | (intro h; first | exact h | (simp only [bk] at h; omega)))))
    | (with_reducible refine And.intro hE ?_)
    | ((with_reducible refine OBL.mk ?_ (fun _ => ?_)); exact ⟨by first | omega | (dsimp only; omega), by first | omega | (dsimp only; omega), his⟩)
    | ((with_reducible refine ELD.at (i) hr ?_ ?_ ?_ (fun x' hx' => ?_)); exact mAddr_Non _; (first | rfl | omega); exact hlt1; obtain rfl : x = x' := by (rw [hx] at hx'; exact Option.some.inj hx'))
    | ((with_reducible refine ELD.at (k) hr ?_ ?_ ?_ (fun x' hx' => ?_)); exact mAddr_Non _; (first | rfl | omega); exact hlt2; obtain rfl : y = x' := by (rw [hy] at hx'; exact Option.some.inj hx'))
    | (with_reducible refine And.intro ?_ ?_)
    | (exact True.intro)
    | ((with_reducible refine BIF.dec ?_ ?_) <;> intro _)
    | ((with_reducible refine BIF.s ?_ ?_) <;> intro _)
    | (with_reducible refine NEXTK.normal ?_)
    | (with_reducible refine NEXTK.ret ?_)
    | (with_reducible refine NEXTK.exit ?_)
    | (with_reducible refine SEQ.plain ?_)
    | (with_reducible refine hK _ _ ?_)
    | ((with_reducible refine RUNL.agg (fun _ => ?_) ?_); (focus kernel_rfl))
    | (with_reducible refine RUNL.run ?_)
    | ((with_reducible refine AR.ok ?_ ?_); exact ⟨by first | omega | (dsimp only; omega), by first | omega | (dsimp only; omega)⟩)
    | (with_reducible refine AR.wr ?_)
    | ((with_reducible intro w3 e3); try have z3 := cutLe e3)
    | ((with_reducible intro h3); have h4 := Nat.le_of_lt h3; clear h4)))
  all_goals
    conv => whnf
    (with_reducible refine DRAW.held (id := 2) (Non) [0, 1, 3, 4] (.start (.alt 2 (.start (.alt 5 (.one 6 .done) .stop)) .stop)) ?_ ?_ ?_ ?_); kernel_rfl; kernel_rfl; kernel_rfl
    clear hE
    intro w3 e3 hE
    have z3 := cutLe e3
    repeat (any_goals (
      conv => whnf
      first
      | ((with_reducible intro w3 e3); have z3 := cutLe e3; replace hE := hE.trans' e3 (fun k hk h => by first | exact False.elim h | exact h | (exfalso; simp only [bk] at h; omega) | (simp only [bk] at h; omega)))
      | ((with_reducible refine And.intro ?_ ?_); (focus (first | exact mAddr_Non _ | (intro h; first | exact h | (simp only [bk] at h; omega)))))
      | (with_reducible refine And.intro hE ?_)
      | ((with_reducible refine callY (g := 65) ?_ ?_); kernel_rfl; refine ⟨_, fun hX => l1Own_c _ _ _ x.1.fSeen _ ((hs x hmx).ext hX (mAddr_Non _)) rfl (by omega), ?_⟩; intro r5 w5 e5 oS; have z5 := cutLe e5; replace hE := hE.trans (Ext.of0 e5); replace oS := oS.lo (lo' := w.heap.size) (by omega); obtain ⟨b5, d5, rfl, q5, p5⟩ := oS.rowx)
      | ((with_reducible refine callY (g := 64) ?_ ?_); kernel_rfl; refine ⟨_, fun _ => l1Put_c w.heap.size _ _ _ x.1.fSeen y.1.fId _ oS rfl (by omega) (by omega) hup, ?_⟩; intro r6 w6 e6 oP; have z6 := cutLe e6; replace hE := hE.trans (Ext.of0 e6); obtain ⟨b6, d6, rfl, q6, p6⟩ := oP.rowx)
      | (with_reducible refine And.intro ?_ ?_)
      | (exact True.intro)
      | ((with_reducible refine BIF.dec ?_ ?_) <;> intro _)
      | ((with_reducible refine BIF.s ?_ ?_) <;> intro _)
      | (with_reducible refine NEXTK.normal ?_)
      | (with_reducible refine NEXTK.ret ?_)
      | (with_reducible refine NEXTK.exit ?_)
      | (with_reducible refine SEQ.plain ?_)
      | (with_reducible refine hK _ _ ?_)
      | ((with_reducible refine RUNL.agg (fun _ => ?_) ?_); (focus kernel_rfl))
      | (with_reducible refine RUNL.run ?_)
      | ((with_reducible refine AR.ok ?_ ?_); exact ⟨by first | omega | (dsimp only; omega), by first | omega | (dsimp only; omega)⟩)
      | (with_reducible refine AR.wr ?_)
      | ((with_reducible intro w3 e3); try have z3 := cutLe e3)
      | ((with_reducible intro h3); have h4 := Nat.le_of_lt h3; clear h4)))
    conv => whnf
    refine LOOP.mk (Nat × (Option Addr × Nat × Nat)) (fun g => [(11, .v (.int .i64 g.1)), (10, .v (.slice g.2.1 g.2.2.1 g.2.2.2))]) (fun g wr => g.1 ≤ y.1.fSeen.length ∧ w6.heap.size ≤ wr.heap.size ∧ Own wr w.heap.size 3 1 (.slice g.2.1 g.2.2.1 g.2.2.2) ((seenF x.1.fSeen y.1.fSeen y.1.fId g.1).map encI)) (fun g => y.1.fSeen.length - g.1) (0, (b6, _, d6)) rfl ⟨rfl, rfl, trivial⟩ ⟨Nat.zero_le _, Nat.le_refl _, oP⟩ ?_
    clear hE oS oP q5 q6
    rintro ⟨q, ⟨a1, m1, c1⟩⟩ wr hX0 ⟨hq, hzr, hown⟩
    simp only at hq hzr hown
    have hlw : w.heap.size ≤ wr.heap.size := cutLe hX0
    obtain ⟨su, -, sl⟩ := seenF_all x.1.fSeen y.1.fSeen y.1.fId hup q hq
    have hml := hown.row.2
    rw [List.length_map] at hml
    dsimp only
    conv => whnf
    repeat (first | ((with_reducible refine NEXTK.normal ?_); conv => whnf) | ((with_reducible refine NEXTK.exit ?_); conv => whnf) | ((with_reducible refine NEXTK.ret ?_); conv => whnf) | ((with_reducible refine SEQ.plain ?_); conv => whnf) | ((with_reducible refine AR.ok ?_ ?_); exact ⟨by omega, by omega⟩; conv => whnf))
    refine BIF.dec (fun hlt => ?_) (fun hlt => ?_)
    · have hq1 : q < y.1.fSeen.length := by omega
      obtain ⟨s, hs1⟩ : ∃ s, y.1.fSeen[q]? = some s := ⟨y.1.fSeen[q], by simp⟩
      have hist := hrt.isSome (by simp; omega)
      repeat (any_goals (
        conv => whnf
        first
        | ((with_reducible refine OBL.mk ?_ (fun _ => ?_)); exact ⟨by first | omega | (dsimp only; omega), by first | omega | (dsimp only; omega), hist⟩)
        | ((with_reducible refine ELD.at (q) hrt ?_ ?_ ?_ (fun x' hx' => ?_)); exact mAddr_Non _; (first | rfl | omega); exact hq1; obtain rfl : s = x' := by (rw [hs1] at hx'; exact Option.some.inj hx'))
        | ((with_reducible refine callY (g := 64) ?_ ?_); kernel_rfl; refine ⟨_, fun _ => l1Put_c w.heap.size _ _ _ (seenF x.1.fSeen y.1.fSeen y.1.fId q) s _ hown hml (by omega) (by omega) su, ?_⟩; intro r7 w7 e7 oP; have z7 := cutLe e7; rw [← seenF_succ hs1] at oP; obtain ⟨b7, d7, rfl, q7, p7⟩ := oP.rowx)
        | ((with_reducible refine BIF.dec ?_ ?_) <;> intro _)
        | ((with_reducible refine BIF.s ?_ ?_) <;> intro _)
        | (with_reducible refine NEXTK.normal ?_)
        | (with_reducible refine NEXTK.ret ?_)
        | (with_reducible refine NEXTK.exit ?_)
        | (with_reducible refine SEQ.plain ?_)
        | (with_reducible refine hK _ _ ?_)
        | ((with_reducible refine RUNL.agg (fun _ => ?_) ?_); (focus kernel_rfl))
        | (with_reducible refine RUNL.run ?_)
        | ((with_reducible refine AR.ok ?_ ?_); exact ⟨by first | omega | (dsimp only; omega), by first | omega | (dsimp only; omega)⟩)
        | (with_reducible refine AR.wr ?_)
        | ((with_reducible intro w3 e3); try have z3 := cutLe e3)
        | ((with_reducible intro h3); have h4 := Nat.le_of_lt h3; clear h4)))
      exact ⟨(q + 1, (b7, _, d7)), rfl, ⟨rfl, rfl, trivial⟩, rfl, rfl, ⟨by simp only; omega, by dsimp only; omega, oP⟩, by simp only; omega⟩
    · have hqe : q = y.1.fSeen.length := by omega
      have hsort : seenF x.1.fSeen y.1.fSeen y.1.fId q = (mergedE x.1 y.1).fSeen := by rw [hqe]; exact seenF_sort hup hnd
      rw [hsort] at hown hml
      have oW : ∀ b, (Value.slice a1 m1 c1).ownBlock = some b → b < wr.heap.size := fun b h => (hown.block h).2
      repeat (any_goals (
        conv => whnf
        first
        | ((with_reducible intro w3 e3); have z3 := cutLe e3; replace hown := hown.ext e3 (by first | exact fun _ _ h => h | (intro b hb h; have := oW b hb; simp only [bk] at h; omega)))
        | ((with_reducible refine BIF.seq ?_ ?_) <;> intro hp)
        | ((with_reducible refine BIF.beq ?_ ?_) <;> intro hyr)
        | ((with_reducible refine BIF.dec ?_ ?_) <;> intro _)
        | ((with_reducible refine BIF.s ?_ ?_) <;> intro _)
        | (with_reducible refine NEXTK.normal ?_)
        | (with_reducible refine NEXTK.ret ?_)
        | (with_reducible refine NEXTK.exit ?_)
        | (with_reducible refine SEQ.plain ?_)
        | (with_reducible refine hK _ _ ?_)
        | ((with_reducible refine RUNL.agg (fun _ => ?_) ?_); (focus kernel_rfl))
        | (with_reducible refine RUNL.run ?_)
        | ((with_reducible refine AR.ok ?_ ?_); exact ⟨by first | omega | (dsimp only; omega), by first | omega | (dsimp only; omega)⟩)
        | (with_reducible refine AR.wr ?_)
        | ((with_reducible intro w3 e3); try have z3 := cutLe e3)
        | ((with_reducible intro h3); have h4 := Nat.le_of_lt h3; clear h4)))
      all_goals
        conv => whnf
        refine callY (g := 55) (by kernel_rfl) ⟨_, fun hX => l25Own_c a n c ts _ (hr.ext hX (mAddr_Non _)) (fun t ht => (hs t ht).ext hX (mAddr_Non _)) hn (by omega) (fun t ht => by have := hz t ht; omega), fun r w1 e1 h1 => ?_⟩
        obtain ⟨us, hus, hO⟩ := h1
        have z1 := cutLe e1
        have hul : us.length = n := by have := congrArg List.length hus; simpa [hn] using this
        obtain ⟨a2, c2, rfl, q2, p2⟩ := hO.top.rowx
        rw [hul]
        rw [hul] at hO
        replace hown := hown.e0 e1
        obtain ⟨u, hu⟩ : ∃ u, us[i]? = some u := ⟨us[i], by simp⟩
        have his2 := q2.isSome (by simp; omega)
        have oT := fun k h => hO.top.block (k := k) h
        repeat (any_goals (
          conv => whnf
          first
          | ((with_reducible refine OBL.mk ?_ (fun _ => ?_)); exact ⟨by omega, by omega, his2⟩)
          | ((with_reducible refine BIF.dec ?_ ?_) <;> intro _)
          | ((with_reducible refine BIF.s ?_ ?_) <;> intro _)
          | (with_reducible refine NEXTK.normal ?_)
          | (with_reducible refine NEXTK.ret ?_)
          | (with_reducible refine NEXTK.exit ?_)
          | (with_reducible refine SEQ.plain ?_)
          | (with_reducible refine hK _ _ ?_)
          | ((with_reducible refine RUNL.agg (fun _ => ?_) ?_); (focus kernel_rfl))
          | (with_reducible refine RUNL.run ?_)
          | ((with_reducible refine AR.ok ?_ ?_); exact ⟨by first | omega | (dsimp only; omega), by first | omega | (dsimp only; omega)⟩)
          | (with_reducible refine AR.wr ?_)
          | ((with_reducible intro w3 e3); try have z3 := cutLe e3)
          | ((with_reducible intro h3); have h4 := Nat.le_of_lt h3; clear h4)))
        conv => whnf
        refine stS (i := i) hO.top rfl rfl rfl i rfl (by rw [List.getElem?_map, hu]; rfl) (by decide) (show w.heap.size ≤ _ by omega) (by repeat (first | exact trivial | (refine ⟨?_, ?_⟩; (focus (intro h; have hh := oT _ h; dsimp only at hh; omega))))) (fun w6 e6 o6 => ?_)
        have hme : encT (mergedE x.1 y.1, a1, c1) = [.int .i64 x.1.fId, .string x.1.fTitle, .string (if x.1.fPlace = ByteArray.empty then y.1.fPlace else x.1.fPlace), .int .i64 (if x.1.fYear = 0 then y.1.fYear else x.1.fYear), .int .i64 (x.1.fCount + y.1.fCount), .slice a1 m1 c1] := by simp only [encT, hml]; rfl
        first | rw [if_pos (show x.1.fPlace = ByteArray.empty from hp)] at hme | rw [if_neg (show ¬ x.1.fPlace = ByteArray.empty from hp)] at hme
        first | rw [if_pos hyr] at hme | rw [if_neg hyr] at hme
        obtain ⟨r, hre⟩ : ∃ r : Tri, r = (mergedE x.1 y.1, a1, c1) := ⟨_, rfl⟩
        rw [← hre] at hme
        have hr1 : r.1 = mergedE x.1 y.1 := by rw [hre]
        replace o6 : Own w6 w.heap.size 46 6 (.slice a2 n c2) ((us.map encT).set i (splice (encT u) 0 (encT r))) := by rw [hme]; exact o6.lo (by omega)
        replace o6 := seg_put hu (r := r) o6
        have z6 := cutLe e6
        have hrs : r.sl = .slice a1 m1 c1 := by rw [hre, ← hml]
        have hfr : ∀ t ∈ us, ∀ b, t.sl.ownBlock = some b → r.sl.ownBlock ≠ some b := fun t ht b hb hb2 => by
          have h1 := ((hO.sub t ht).block hb).1
          rw [hrs] at hb2
          have h2 := oW b hb2
          omega
        have oR6 : Own w6 w.heap.size 3 1 r.sl (r.1.fSeen.map encI) := by
          rw [hrs, hr1]
          exact hown.ext e6 (fun b hb hb2 => own_ne hO.top hown (by decide) hb2 hb)
        have hO6 := (hO.lo (lo' := w.heap.size) (by omega)).put hu o6 oR6 hfr e6
        have hvl : (us.set i r).length = n := by rw [List.length_set]; exact hul
        have hfin : ((us.set i r).eraseIdx k).map (·.1) = mergeP (ts.map (·.1)) i k := by
          rw [map_erase_set, mergeP_at (fst_at hx) (fst_at hy), hus, hr1]
        have hvz : sizT ((us.set i r).eraseIdx k) := sizT_merge hg hz hus hmx hmy hr1
        have hvn : ((us.set i r).eraseIdx k).length ≤ n := by have := List.length_eraseIdx_le (us.set i r) k; omega
        obtain ⟨vs, hvs⟩ : ∃ vs, vs = us.set i r := ⟨_, rfl⟩
        rw [← hvs] at hO6 hvl hfin hvz hvn
        repeat (any_goals (
          conv => whnf
          first
          | ((with_reducible refine BIF.dec ?_ ?_) <;> intro _)
          | ((with_reducible refine BIF.s ?_ ?_) <;> intro _)
          | (with_reducible refine NEXTK.normal ?_)
          | (with_reducible refine NEXTK.ret ?_)
          | (with_reducible refine NEXTK.exit ?_)
          | (with_reducible refine SEQ.plain ?_)
          | (with_reducible refine hK _ _ ?_)
          | ((with_reducible refine RUNL.agg (fun _ => ?_) ?_); (focus kernel_rfl))
          | (with_reducible refine RUNL.run ?_)
          | ((with_reducible refine AR.ok ?_ ?_); exact ⟨by first | omega | (dsimp only; omega), by first | omega | (dsimp only; omega)⟩)
          | (with_reducible refine AR.wr ?_)
          | ((with_reducible intro w3 e3); try have z3 := cutLe e3)
          | ((with_reducible intro h3); have h4 := Nat.le_of_lt h3; clear h4)))
        conv => whnf
        (with_reducible refine DRAW.plan (id := 14) (.one 1 (.one 2 (.one 3 (.one 5 (.one 6 (.one 7 (.one 8 (.start (.alt 0 (.start (.alt 4 (.start (.alt 9 (.one 10 .done) .stop)) .stop)) .stop))))))))) ?_ ?_ ?_ ?_); kernel_rfl; kernel_rfl; kernel_rfl
        have oB6 := fun b h => (hO6.blk b h).2
        repeat (any_goals (
          conv => whnf
          first
          | ((with_reducible intro w3 e3); have z3 := cutLe e3; replace hO6 := hO6.e0 e3)
          | (with_reducible refine And.intro ?_ ?_)
          | (exact True.intro)
          | ((with_reducible refine OBL.mk ?_ (fun _ => ?_)); omega)
          | ((with_reducible refine bsS elemT [] rfl rfl (by simp) (by omega) (fun w9 e9 oC => ?_)); have z9 := cutLe e9; replace hO6 := hO6.e0 e9; have oCb := fun b h => oC.block (k := b) h)
          | ((with_reducible refine apS (ns := (vs.take k).map encT) elemT oC ?_ ?_ ?_ ?_ ?_ ?_ (fun v2 w2 x2 o2 => ?_)); (focus exact rowPreT hO6.top.row.1 (by omega)); (focus (simp; omega)); (focus exact (by intro l hl; obtain ⟨x, -, rfl⟩ := List.mem_map.1 hl; rfl)); (focus exact ⟨by simp; omega, by simp; omega⟩); (focus exact ⟨(by show w.heap.size ≤ _; omega), by omega⟩); (focus exact (by repeat (first | exact trivial | (refine ⟨?_, ?_⟩; (focus (intro h; have hh := oCb _ h; dsimp only at hh; omega)))))); have z2 := cutLe x2; replace hO6 := hO6.ext x2 (fun b hb h => by have := oB6 b hb; have := (oCb b h).1; omega); clear oC; replace o2 := (show Own w2 _ 46 6 v2 ((vs.take k).map encT) from (by simpa using o2)); have oCb2 := fun b h => o2.block (k := b) h; obtain ⟨b2, d2, rfl, q2, p2⟩ := o2.rowx)
          | ((with_reducible refine apS (ns := (vs.drop (k + 1)).map encT) elemT o2 ?_ ?_ ?_ ?_ ?_ ?_ (fun v5 w5 x5 o5 => ?_)); (focus exact rowSufT hO6.top.row.1 (by omega) (by omega)); (focus (simp; omega)); (focus exact (by intro l hl; obtain ⟨x, -, rfl⟩ := List.mem_map.1 hl; rfl)); (focus exact ⟨by simp; omega, by simp; omega⟩); (focus exact ⟨(by show w.heap.size ≤ _; omega), by omega⟩); (focus exact (by repeat (first | exact trivial | (refine ⟨?_, ?_⟩; (focus (intro h; have hh := oCb2 _ h; dsimp only at hh; omega)))))); have z5 := cutLe x5; replace hO6 := hO6.ext x5 (fun b hb h => by have := oB6 b hb; have := (oCb2 b h).1; omega); clear o2; replace o5 : Own w5 w.heap.size 46 6 v5 ((vs.eraseIdx k).map encT) := (by rw [List.eraseIdx_eq_take_drop_succ, List.map_append]; exact o5.lo (by omega)); obtain ⟨b5, d5, rfl, q5, p5⟩ := o5.rowx)
          | ((with_reducible refine BIF.dec ?_ ?_) <;> intro _)
          | ((with_reducible refine BIF.s ?_ ?_) <;> intro _)
          | (with_reducible refine NEXTK.normal ?_)
          | (with_reducible refine NEXTK.ret ?_)
          | (with_reducible refine NEXTK.exit ?_)
          | (with_reducible refine SEQ.plain ?_)
          | (with_reducible refine hK _ _ ?_)
          | ((with_reducible refine RUNL.agg (fun _ => ?_) ?_); (focus kernel_rfl))
          | (with_reducible refine RUNL.run ?_)
          | ((with_reducible refine AR.ok ?_ ?_); exact ⟨by first | omega | (dsimp only; omega), by first | omega | (dsimp only; omega)⟩)
          | (with_reducible refine AR.wr ?_)
          | ((with_reducible intro w3 e3); try have z3 := cutLe e3)
          | ((with_reducible intro h3); have h4 := Nat.le_of_lt h3; clear h4)))
        conv => whnf
        replace hO6 := hO6.erase k o5 (Ext.refl _ _)
        refine callF (g := 50) (by kernel_rfl) ⟨_, l25Good_c _ _ _ (vs.eraseIdx k) _ hO6.top.row.1 hO6.seen rfl (by omega) hvz, fun w8 e8 => ?_⟩
        replace hO6 := hO6.e0 e8
        repeat (any_goals (
          conv => whnf
          first
          | ((with_reducible refine BIF.dec ?_ ?_) <;> intro _)
          | ((with_reducible refine BIF.s ?_ ?_) <;> intro _)
          | (with_reducible refine NEXTK.normal ?_)
          | (with_reducible refine NEXTK.ret ?_)
          | (with_reducible refine NEXTK.exit ?_)
          | (with_reducible refine SEQ.plain ?_)
          | (with_reducible refine hK _ _ ?_)
          | ((with_reducible refine RUNL.agg (fun _ => ?_) ?_); (focus kernel_rfl))
          | (with_reducible refine RUNL.run ?_)
          | ((with_reducible refine AR.ok ?_ ?_); exact ⟨by first | omega | (dsimp only; omega), by first | omega | (dsimp only; omega)⟩)
          | (with_reducible refine AR.wr ?_)
          | ((with_reducible intro w3 e3); try have z3 := cutLe e3)
          | ((with_reducible intro h3); have h4 := Nat.le_of_lt h3; clear h4)))
        intro hx'
        rw [← hfin]
        exact ⟨_, rfl, hx', _, _, rfl, rfl, hO6⟩

theorem find_hit {α : Type} {f : Nat → Option α} {n k : Nat} {r : α} (hk : k < n) (hr : f k = some r) (hno : ∀ j, j < k → f j = none) : (List.range n).findSome? f = some r := by
  induction n with
  | zero => omega
  | succ n ih =>
    rw [List.range_succ, List.findSome?_append]
    rcases Nat.lt_or_ge k n with h | h
    · rw [ih h]; rfl
    · obtain rfl : k = n := by omega
      have : (List.range k).findSome? f = none := by
        rw [List.findSome?_eq_none_iff]
        intro j hj
        exact hno j (by simpa using hj)
      rw [this]
      simp [hr]
theorem find_no {α : Type} {f : Nat → Option α} {n : Nat} (hno : ∀ j, j < n → f j = none) : (List.range n).findSome? f = none := by
  rw [List.findSome?_eq_none_iff]
  intro j hj
  exact hno j (by simpa using hj)
def alikeAt (es : List Ent) (i k : Nat) : Bool :=
  match es[i]?, es[k]? with
  | some x, some y => alikeB x y
  | _, _ => false
theorem alikeAt_get {es : List Ent} {i k : Nat} {x y : Ent} (hx : es[i]? = some x) (hy : es[k]? = some y) : alikeAt es i k = alikeB x y := by unfold alikeAt; rw [hx, hy]
def okPair (es : List Ent) (i k : Nat) : Bool := decide (i < k) && alikeAt es i k && areE (mergeP es i k)
def rowP (es : List Ent) (i : Nat) : Option (List Ent) := (List.range es.length).findSome? fun k => if okPair es i k then some (mergeP es i k) else none
def onceP (es : List Ent) : Option (List Ent) := (List.range es.length).findSome? (rowP es)
def nextP (es : List Ent) : List Ent := (onceP es).getD es
theorem rowP_none {es : List Ent} {i : Nat} (h : ∀ k, i < k → k < es.length → okPair es i k = false) : rowP es i = none :=
  find_no fun k hk => by
    by_cases hik : i < k
    · rw [h k hik hk]; rfl
    · have : okPair es i k = false := by unfold okPair; rw [decide_eq_false hik]; rfl
      rw [this]; rfl
theorem onceP_hit {es : List Ent} {i k : Nat} (hi : i < es.length) (hk : k < es.length) (h : okPair es i k = true) (h1 : ∀ j, j < i → rowP es j = none) (h2 : ∀ j, i < j → j < k → okPair es i j = false) : onceP es = some (mergeP es i k) := by
  refine find_hit hi ?_ h1
  refine find_hit hk (by rw [h]; rfl) (fun j hj => ?_)
  by_cases hij : i < j
  · rw [h2 j hij hj]; rfl
  · have : okPair es i j = false := by unfold okPair; rw [decide_eq_false hij]; rfl
    rw [this]; rfl
theorem onceP_none {es : List Ent} (h : ∀ j, j < es.length → rowP es j = none) : onceP es = none := find_no h
theorem onceP_some {es fs : List Ent} (h : onceP es = some fs) : ∃ i k, i < k ∧ k < es.length ∧ okPair es i k = true ∧ fs = mergeP es i k := by
  unfold onceP at h
  obtain ⟨i, hi, h1⟩ := List.exists_of_findSome?_eq_some h
  unfold rowP at h1
  obtain ⟨k, hk, h2⟩ := List.exists_of_findSome?_eq_some h1
  rw [List.mem_range] at hi hk
  split at h2
  · rename_i ho
    cases h2
    refine ⟨i, k, ?_, hk, ho, rfl⟩
    unfold okPair at ho
    simp only [Bool.and_eq_true, decide_eq_true_eq] at ho
    exact ho.1.1
  · cases h2
theorem mergeP_len {es : List Ent} {i k : Nat} (hi : i < es.length) (hk : k < es.length) : (mergeP es i k).length + 1 = es.length := by
  rw [mergeP_at (List.getElem?_eq_getElem hi) (List.getElem?_eq_getElem hk), List.length_eraseIdx, List.length_set, if_pos hk]
  omega
theorem rising_up {xs : List Int} (h : rising xs = true) : Up xs := by
  unfold rising riseUp at h
  rw [List.all_eq_true] at h
  have hs : ∀ j (h1 : j + 1 < xs.length), xs[j] < xs[j + 1] := by
    intro j h1
    have := h (j + 1) (by simpa using h1)
    rw [riseAt_get (by omega) (List.getElem?_eq_getElem h1) (List.getElem?_eq_getElem (by omega : j + 1 - 1 < xs.length))] at this
    simpa using this
  unfold Up
  rw [List.pairwise_iff_getElem]
  intro i j hi hj hij
  induction j with
  | zero => omega
  | succ j ih =>
    have := hs j hj
    rcases Nat.lt_or_ge i j with h | h
    · have := ih (by omega) h; omega
    · obtain rfl : i = j := by omega
      omega
theorem areE_at {es : List Ent} (h : areE es = true) {k : Nat} {x : Ent} (hx : es[k]? = some x) : okE x = true ∧ x.fSeen.all (seenAt es k) = true ∧ gAtE es k = true := by
  have hk := (List.getElem?_eq_some_iff.1 hx).1
  unfold areE eUp at h
  rw [Bool.and_eq_true, List.all_eq_true] at h
  have h1 := h.1 k (by simpa using hk)
  unfold eAt at h1
  rw [Bool.and_eq_true, hx] at h1
  refine ⟨?_, h1.2, h1.1⟩
  have h2 := h1.1
  unfold gAtE at h2
  rw [hx] at h2
  simp only [Bool.and_eq_true] at h2
  exact h2.1
theorem areE_len {es : List Ent} (h : areE es = true) : es.length ≤ 12 := by
  unfold areE at h
  rw [Bool.and_eq_true] at h
  exact of_decide_eq_true h.2
theorem okE_facts {x : Ent} (h : okE x = true) : x.fSeen.length ≤ 8 ∧ Up x.fSeen ∧ x.fId ∉ x.fSeen ∧ (0 ≤ x.fCount ∧ x.fCount ≤ 99) ∧ (0 ≤ x.fYear ∧ x.fYear ≤ 2100) ∧ (1 ≤ x.fId ∧ x.fId ≤ 999) ∧ ∀ s ∈ x.fSeen, 1 ≤ s ∧ s ≤ 999 := by
  unfold okE okS at h
  simp only [Bool.and_eq_true, Bool.or_eq_true, decide_eq_true_eq, Bool.not_eq_true', List.any_eq_false] at h
  obtain ⟨⟨⟨⟨⟨⟨⟨h1, h2⟩, h3⟩, h4⟩, h5⟩, h6⟩, h7⟩, h8⟩ := h
  refine ⟨h1, rising_up h2, fun hin => (h3 _ hin) (by simp), inB_iff.1 h8, ?_, inB_iff.1 h4, fun s hs => ?_⟩
  · rcases h7 with h7 | h7
    · omega
    · have := inB_iff.1 h7; omega
  · have := h3 s hs
    simp only [Bool.not_eq_true, Bool.or_eq_true, not_or, Bool.not_eq_false'] at this
    have h9 : inB s 1 999 = true := by
      cases hb : inB s 1 999 with
      | true => rfl
      | false => rw [hb] at this; simp at this
    exact inB_iff.1 h9
theorem areE_nodup {es : List Ent} (h : areE es = true) {i k : Nat} {x y : Ent} (hx : es[i]? = some x) (hy : es[k]? = some y) (hik : i ≠ k) : Up x.fSeen ∧ (x.fSeen ++ y.fSeen ++ [y.fId]).Nodup := by
  obtain ⟨ox, sx, -⟩ := areE_at h hx
  obtain ⟨oy, sy, -⟩ := areE_at h hy
  have fx := okE_facts ox
  have fy := okE_facts oy
  have hno : ∀ s ∈ x.fSeen, knowsB s y = false := fun s hs => (seenAt_iff hx hs).1 (List.all_eq_true.1 sx s hs) k y (fun e => hik e.symm) hy
  refine ⟨fx.2.1, ?_⟩
  rw [List.append_assoc]
  refine List.nodup_append.2 ⟨up_nodup fx.2.1, List.nodup_append.2 ⟨up_nodup fy.2.1, by simp, fun a ha b hb => ?_⟩, fun a ha b hb => ?_⟩
  · rw [List.mem_singleton] at hb
    rw [hb]
    intro e
    exact fy.2.2.1 (e ▸ ha)
  · intro e
    subst e
    have := hno a ha
    unfold knowsB at this
    simp only [Bool.or_eq_false_iff, decide_eq_false_iff_not] at this
    rcases List.mem_append.1 hb with h' | h'
    · exact this.2 h'
    · rw [List.mem_singleton] at h'
      exact this.1 h'.symm

end Go.Proofs.YtpddilkonkkppaaGreatDoor

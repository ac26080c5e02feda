/- FnMerging returns true for every argument and leaves its argument as it was. -/
import Derived.Test.YtpddilkonkkppaaGreatDoorRows
import Derived.Test.YtpddilkonkkppaaGreatDoorMlib
import Derived.Test.YtpddilkonkkppaaGreatDoorMlaw
import Derived.Test.YtpddilkonkkppaaGreatDoorDraw4
import Derived.Test.YtpddilkonkkppaaGreatDoorCards
import Derived.Test.YtpddilkonkkppaaGreatDoorTie
import Derived.LaidMore
import Derived.Stop.Joined
import Derived.SevenTiedAt
import Derived.Handed
namespace Go.Proofs.YtpddilkonkkppaaGreatDoor
open Go Go.X Go.Proofs Go.ChangeShapes Go.WideShapes Go.ChangeAt Go.RowKit
open Go.ChangeMaps (open_string shut_string)
set_option maxHeartbeats 1000000
set_option maxRecDepth 20000
set_option linter.unusedVariables false
set_option linter.unusedSimpArgs false
theorem vEntriesT_c (a b : Option Addr) (n c m d : Nat) (ts us : List Tri) (w : World) (hr : Row w a 6 (ts.map encT)) (ht : SeenAt w ts) (hs : Row w b 6 (us.map encT)) (hu : SeenAt w us) (hn : ts.length = n) (hm : us.length = m) (hl : n ≤ 4611686018427387904) (hl2 : m ≤ 4611686018427387904)
    (hz : ∀ t ∈ ts, t.1.fSeen.length ≤ 1048577) (hz2 : ∀ t ∈ us, t.1.fSeen.length ≤ 1048577) (he : ts.map (·.1) = us.map (·.1)) :
    Calls Tryz.prog 17 #[.slice a n c, .slice b m d] w fun e w' => e = .returned (.bool true) ∧ E0 w w' := by
  have := vEntries_c a b n c m d ts us w hr ht hs hu hn hm hl hl2 hz hz2
  rw [decide_eq_true he] at this
  exact this
theorem vClashesT_c (a b : Option Addr) (n c m d : Nat) (xs ys : List Cla) (w : World) (hr : Row w a 3 (xs.map encCla)) (hs : Row w b 3 (ys.map encCla)) (hn : xs.length = n) (hm : ys.length = m) (hl : n ≤ 4611686018427387904) (hl2 : m ≤ 4611686018427387904) (he : xs = ys) :
    Calls Tryz.prog 18 #[.slice a n c, .slice b m d] w fun e w' => e = .returned (.bool true) ∧ E0 w w' := by
  have := vClashes_c a b n c m d xs ys w hr hs hn hm hl hl2
  rw [decide_eq_true he] at this
  exact this
theorem CopiesT_c (a : Option Addr) (n c : Nat) (ts : List Tri) (w : World) (hr : Row w a 6 (ts.map encT)) (hs : SeenAt w ts) (hn : ts.length = n) (hm : n ≤ 1048577) (hc : n ≤ c) (hz : ∀ t ∈ ts, t.1.fSeen.length ≤ 1048577) (hA : areE (ts.map (·.1)) = true) :
    Calls Tryz.prog 22 #[.slice a n c] w fun e w' => e = .returned (.tuple #[.int .i64 (sumE (ts.map (·.1))), .bool true]) ∧ E0 w w' := by
  have := CopiesOf_c a n c ts w hr hs hn hm hc hz
  rw [hA] at this
  exact this
theorem clashesP_len (es : List Ent) (p q : Int) : (clashesP es p q).length ≤ 3 := by
  unfold clashesP
  split
  · exact clashAt_len _ _ _
  · simp
theorem fit_sizT {ts : List Tri} (h : ∀ t ∈ ts, fitE t) : sizT ts := fun t ht => by
  have := h t ht
  unfold fitE at this
  omega
theorem fit_len {ts : List Tri} (h : ∀ t ∈ ts, fitE t) : ∀ t ∈ ts, t.1.fSeen.length ≤ 1048577 := fun t ht => (fit_sizT h t ht).1
set_option maxHeartbeats 8000000 in
theorem FnMerging_w (w : World) (hT : Tab w) (a : Option Addr) (n c : Nat) (bs : List Int) (hr : Row w a 1 (bs.map encB)) (hn : bs.length = n) (hm : n ≤ 9223372036854775807) (hby : ∀ y ∈ bs, 0 ≤ y ∧ y ≤ 255) :
    Calls Tryz.prog 4 #[.slice a n c] w fun e w' => e = .returned (.bool true) ∧ E0 w w' := by
  refine enterK Non 301 Tryz.func4 rfl rfl rfl fun K hK => ?_
  by_cases hbig : (65536 : Int) < n
  · repeat (any_goals (
      conv => whnf
      first
      | ((with_reducible refine callF (g := 15) ?_ ?_); kernel_rfl; refine ⟨_, vBig_c _ _ _ _, ?_⟩; intro w4 e4; have z4 := cutLe e4)
      | ((with_reducible refine BIF.s (fun h => absurd h ?_) (fun _ => ?_)); focus (first | (simp; done) | (simp; omega)))
      | ((with_reducible refine BIF.s (fun _ => ?_) (fun h => absurd h ?_)); rotate_left; focus (first | (simp; done) | (simp; omega)))
      | ((with_reducible refine BIF.dec ?_ ?_) <;> intro _)
      | ((with_reducible refine BIF.s ?_ ?_) <;> intro _)
      | (with_reducible refine NEXTK.normal ?_)
      | (with_reducible refine NEXTK.ret ?_)
      | (with_reducible refine NEXTK.exit ?_)
      | (with_reducible refine SEQ.plain ?_)
      | (with_reducible refine hK _ _ ?_)
      | ((with_reducible refine RUNL.agg (fun _ => ?_) ?_); (focus kernel_rfl))
      | (with_reducible refine RUNL.run ?_)
      | ((with_reducible refine AR.ok ?_ ?_); exact ⟨by first | omega | (dsimp only; omega), by first | omega | (dsimp only; omega)⟩)
      | (with_reducible refine AR.wr ?_)
      | ((with_reducible intro w3 e3); try have z3 := cutLe e3)
      | ((with_reducible intro h3); have h4 := Nat.le_of_lt h3; clear h4)))
    intro hx
    exact ⟨rfl, hx⟩
  · have hsm : n ≤ 65536 := by omega
    repeat (any_goals (
      conv => whnf
      first
      | ((with_reducible refine callF (g := 15) ?_ ?_); kernel_rfl; refine ⟨_, vBig_c _ _ _ _, ?_⟩; intro w4 e4; have z4 := cutLe e4)
      | ((with_reducible refine BIF.s (fun h => absurd h ?_) (fun _ => ?_)); focus (first | (simp; done) | (simp; omega)))
      | ((with_reducible refine BIF.s (fun _ => ?_) (fun h => absurd h ?_)); rotate_left; focus (first | (simp; done) | (simp; omega)))
      | ((with_reducible refine callS (g := 16) ?_ ?_); kernel_rfl; refine ⟨_, DrawMergeTwo_c _ _ _ bs _ (by repeat (first | assumption | refine Row.e0 ?_ (by assumption) | (refine Row.box (by assumption) (by assumption) (fun k hk h => notBk hk h (Nat.le_refl _)) ?_))) hn hsm hby, ?_⟩; intro r5 w5 e5 h5; have z5 := cutLe e5; obtain ⟨s5, ts, p, q, rfl, hp, hq, hl5, hf5, oT⟩ := h5; obtain ⟨aT, cT, rfl, qT, pT⟩ := oT.top.rowx; have sT := oT.seen)
      | ((with_reducible refine callS (g := 8) ?_ ?_); kernel_rfl; refine ⟨_, MergeTwo_c _ _ _ ts p q _ (by repeat (first | assumption | refine TabIs.e0 ?_ (by assumption))) (by repeat (first | assumption | refine Row.e0 ?_ (by assumption) | (refine Row.box (by assumption) (by assumption) (fun k hk h => notBk hk h (Nat.le_refl _)) ?_))) (by repeat (first | assumption | refine SeenAt.e0 ?_ (by assumption))) rfl (by omega) (by omega) (fit_len hf5), ?_⟩; intro r6 w6 e6 h6; have z6 := cutLe e6; obtain ⟨s6, fs, k6, rfl, hfs, oF, oK⟩ := h6; obtain ⟨aF, cF, rfl, qF, pF⟩ := oF.top.rowx; have sF := oF.seen; obtain ⟨aK, cK, rfl, qK, pK⟩ := oK.rowx; have yF := bndMergeTwo hfs)
      | ((with_reducible refine callS (g := 6) ?_ ?_); kernel_rfl; refine ⟨_, MergeTwoS_c _ _ _ ts p q _ (by repeat (first | assumption | refine Row.e0 ?_ (by assumption) | (refine Row.box (by assumption) (by assumption) (fun k hk h => notBk hk h (Nat.le_refl _)) ?_))) (by repeat (first | assumption | refine SeenAt.e0 ?_ (by assumption))) rfl (by omega) (fit_sizT hf5), ?_⟩; intro r7 w7 e7 h7; have z7 := cutLe e7; obtain ⟨s7, gs, k7, rfl, hgs, oG, oJ⟩ := h7; obtain ⟨aG, cG, rfl, qG, pG⟩ := oG.top.rowx; have sG := oG.seen; obtain ⟨aJ, cJ, rfl, qJ, pJ⟩ := oJ.rowx; have yG := bndMergeTwo hgs; have hcl := mergeTwo_len (ts.map (·.1)) p q)
      | ((with_reducible refine callF (g := 17) ?_ ?_); kernel_rfl; refine ⟨_, vEntriesT_c _ _ _ _ _ _ fs gs _ (by repeat (first | assumption | refine Row.e0 ?_ (by assumption) | (refine Row.box (by assumption) (by assumption) (fun k hk h => notBk hk h (Nat.le_refl _)) ?_))) (by repeat (first | assumption | refine SeenAt.e0 ?_ (by assumption))) (by repeat (first | assumption | refine Row.e0 ?_ (by assumption) | (refine Row.box (by assumption) (by assumption) (fun k hk h => notBk hk h (Nat.le_refl _)) ?_))) (by repeat (first | assumption | refine SeenAt.e0 ?_ (by assumption))) rfl rfl (by omega) (by omega) (fun t ht => by have := yF.2.1 t ht; omega) (fun t ht => by have := yG.2.1 t ht; omega) (hfs.trans hgs.symm), ?_⟩; intro w4 e4; have z4 := cutLe e4)
      | ((with_reducible refine callF (g := 18) ?_ ?_); kernel_rfl; refine ⟨_, vClashesT_c _ _ _ _ _ _ (mergeTwoP (ts.map (·.1)) p q).2.1 (mergeTwoP (ts.map (·.1)) p q).2.1 _ (by repeat (first | assumption | refine Row.e0 ?_ (by assumption) | (refine Row.box (by assumption) (by assumption) (fun k hk h => notBk hk h (Nat.le_refl _)) ?_))) (by repeat (first | assumption | refine Row.e0 ?_ (by assumption) | (refine Row.box (by assumption) (by assumption) (fun k hk h => notBk hk h (Nat.le_refl _)) ?_))) rfl rfl (by omega) (by omega) rfl, ?_⟩; intro w4 e4; have z4 := cutLe e4)
      | ((with_reducible refine callF (g := 19) ?_ ?_); kernel_rfl; refine ⟨_, AreEntries_c _ _ _ ts _ (by repeat (first | assumption | refine Row.e0 ?_ (by assumption) | (refine Row.box (by assumption) (by assumption) (fun k hk h => notBk hk h (Nat.le_refl _)) ?_))) (by repeat (first | assumption | refine SeenAt.e0 ?_ (by assumption))) rfl (by omega) (by omega) (fit_len hf5), ?_⟩; intro w4 e4; have z4 := cutLe e4)
      | ((with_reducible refine callF (g := 20) ?_ ?_); kernel_rfl; refine ⟨_, AreEntriesS_c _ _ _ ts _ (by repeat (first | assumption | refine Row.e0 ?_ (by assumption) | (refine Row.box (by assumption) (by assumption) (fun k hk h => notBk hk h (Nat.le_refl _)) ?_))) (by repeat (first | assumption | refine SeenAt.e0 ?_ (by assumption))) rfl (by omega) (fit_sizT hf5), ?_⟩; intro w4 e4; have z4 := cutLe e4)
      | ((with_reducible refine BIF.s (fun (hok : (mergeTwoP (ts.map (·.1)) p q).2.2 = true) => ?_) (fun (hok : (mergeTwoP (ts.map (·.1)) p q).2.2 = false) => ?_)))
      | ((with_reducible refine BIF.dec ?_ ?_) <;> intro _)
      | ((with_reducible refine BIF.s ?_ ?_) <;> intro _)
      | (with_reducible refine NEXTK.normal ?_)
      | (with_reducible refine NEXTK.ret ?_)
      | (with_reducible refine NEXTK.exit ?_)
      | (with_reducible refine SEQ.plain ?_)
      | (with_reducible refine hK _ _ ?_)
      | ((with_reducible refine RUNL.agg (fun _ => ?_) ?_); (focus kernel_rfl))
      | (with_reducible refine RUNL.run ?_)
      | ((with_reducible refine AR.ok ?_ ?_); exact ⟨by first | omega | (dsimp only; omega), by first | omega | (dsimp only; omega)⟩)
      | (with_reducible refine AR.wr ?_)
      | ((with_reducible intro w3 e3); try have z3 := cutLe e3)
      | ((with_reducible intro h3); have h4 := Nat.le_of_lt h3; clear h4)))
    focus
      obtain ⟨m1, m2, m3, m4, m5, m6, m7⟩ := merge_law hok
      have hlen : fs.length + 1 = ts.length := by
        have := congrArg List.length hfs
        rw [List.length_map] at this
        rw [List.length_map] at m6
        omega
      rw [← hfs] at m4 m5 m7
      have hcl2 : (clashesP (ts.map (·.1)) q p).length ≤ 3 := by rw [m2]; exact hcl
      repeat (any_goals (
        conv => whnf
        first
        | ((with_reducible refine callS (g := 21) ?_ ?_); kernel_rfl; refine ⟨_, ClashesOf_c _ _ _ ts q p _ (by repeat (first | assumption | refine TabIs.e0 ?_ (by assumption))) (by repeat (first | assumption | refine Row.e0 ?_ (by assumption) | (refine Row.box (by assumption) (by assumption) (fun k hk h => notBk hk h (Nat.le_refl _)) ?_))) (by repeat (first | assumption | refine SeenAt.e0 ?_ (by assumption))) rfl (by omega) (by omega) (fit_len hf5), ?_⟩; intro r8 w8 e8 h8; have z8 := cutLe e8; obtain ⟨k8, rfl, oL⟩ := h8; obtain ⟨aL, cL, rfl, qL, pL⟩ := oL.rowx)
        | ((with_reducible refine callF (g := 22) ?_ ?_); kernel_rfl; refine ⟨_, CopiesT_c _ _ _ ts _ (by repeat (first | assumption | refine Row.e0 ?_ (by assumption) | (refine Row.box (by assumption) (by assumption) (fun k hk h => notBk hk h (Nat.le_refl _)) ?_))) (by repeat (first | assumption | refine SeenAt.e0 ?_ (by assumption))) rfl (by omega) (by omega) (fit_len hf5) m3, ?_⟩; intro w4 e4; have z4 := cutLe e4)
        | ((with_reducible refine callF (g := 22) ?_ ?_); kernel_rfl; refine ⟨_, CopiesT_c _ _ _ fs _ (by repeat (first | assumption | refine Row.e0 ?_ (by assumption) | (refine Row.box (by assumption) (by assumption) (fun k hk h => notBk hk h (Nat.le_refl _)) ?_))) (by repeat (first | assumption | refine SeenAt.e0 ?_ (by assumption))) rfl (by omega) (by omega) (fun t ht => by have := yF.2.1 t ht; omega) m4, ?_⟩; intro w4 e4; have z4 := cutLe e4)
        | ((with_reducible refine BIF.s (fun h => absurd h ?_) (fun _ => ?_)); focus (simp [m1]; done))
        | ((with_reducible refine BIF.s (fun _ => ?_) (fun h => absurd h ?_)); rotate_left; focus (simp [m1]; done))
        | ((with_reducible refine callF (g := 18) ?_ ?_); kernel_rfl; refine ⟨_, vClashesT_c _ _ _ _ _ _ (clashesP (ts.map (·.1)) q p) (mergeTwoP (ts.map (·.1)) p q).2.1 _ (by repeat (first | assumption | refine Row.e0 ?_ (by assumption) | (refine Row.box (by assumption) (by assumption) (fun k hk h => notBk hk h (Nat.le_refl _)) ?_))) (by repeat (first | assumption | refine Row.e0 ?_ (by assumption) | (refine Row.box (by assumption) (by assumption) (fun k hk h => notBk hk h (Nat.le_refl _)) ?_))) rfl rfl (by omega) (by omega) m2, ?_⟩; intro w4 e4; have z4 := cutLe e4)
        | ((with_reducible refine BIF.bne (fun h => absurd m5 h) (fun _ => ?_)))
        | ((with_reducible refine BIF.bne (fun h => absurd (by omega) h) (fun _ => ?_)))
        | ((with_reducible refine BIF.s (fun h => absurd h ?_) (fun _ => ?_)); focus (first | (simp; done) | (simp; omega)))
        | ((with_reducible refine BIF.s (fun _ => ?_) (fun h => absurd h ?_)); rotate_left; focus (first | (simp; done) | (simp; omega)))
        | ((with_reducible refine BIF.dec ?_ ?_) <;> intro _)
        | ((with_reducible refine BIF.s ?_ ?_) <;> intro _)
        | (with_reducible refine NEXTK.normal ?_)
        | (with_reducible refine NEXTK.ret ?_)
        | (with_reducible refine NEXTK.exit ?_)
        | (with_reducible refine SEQ.plain ?_)
        | (with_reducible refine hK _ _ ?_)
        | ((with_reducible refine RUNL.agg (fun _ => ?_) ?_); (focus kernel_rfl))
        | (with_reducible refine RUNL.run ?_)
        | ((with_reducible refine AR.ok ?_ ?_); exact ⟨by first | omega | (dsimp only; omega), by first | omega | (dsimp only; omega)⟩)
        | (with_reducible refine AR.wr ?_)
        | ((with_reducible intro w3 e3); try have z3 := cutLe e3)
        | ((with_reducible intro h3); have h4 := Nat.le_of_lt h3; clear h4)))
      conv => whnf
      refine LOOP.mk Nat (fun i => [(18, .v (.int .i64 i))]) (fun i wr => i ≤ ts.length ∧ OwnT wr w.heap.size (.slice aT ts.length cT) ts ∧ OwnT wr w.heap.size (.slice aF fs.length cF) fs) (fun i => ts.length - i) 0 rfl ⟨rfl, trivial⟩ ⟨Nat.zero_le _, by repeat (first | exact oT.lo (by omega) | refine OwnT.e0 ?_ (by assumption)), by repeat (first | exact oF.lo (by omega) | refine OwnT.e0 ?_ (by assumption))⟩ ?_
      rintro i wr hX0 ⟨hi, hoT, hoF⟩
      have hX1 : E0 w wr := hX0
      have hlw := cutLe hX1
      conv => whnf
      repeat (first | ((with_reducible refine NEXTK.normal ?_); conv => whnf) | ((with_reducible refine NEXTK.exit ?_); conv => whnf) | ((with_reducible refine NEXTK.ret ?_); conv => whnf) | ((with_reducible refine SEQ.plain ?_); conv => whnf) | ((with_reducible refine AR.ok ?_ ?_); exact ⟨by omega, by omega⟩; conv => whnf))
      refine BIF.dec (fun hlt => ?_) (fun hlt => ?_)
      · have hlt' : i < ts.length := by omega
        obtain ⟨t, ht⟩ : ∃ t, ts[i]? = some t := ⟨ts[i], by simp⟩
        have his := hoT.top.row.1.isSome (by simp; omega)
        have hfi := m7 i t.1 (fst_at ht)
        repeat (any_goals (
          conv => whnf
          first
          | ((with_reducible refine OBL.mk ?_ (fun _ => ?_)); exact ⟨by first | omega | (dsimp only; omega), by first | omega | (dsimp only; omega), his⟩)
          | ((with_reducible refine ELD.atNow (enc := encT) (xs := ts) (i) hoT.top.row.1 ?_ ?_ (fun x' hx' => ?_)); (first | rfl | omega); omega; obtain rfl : t = x' := by (rw [ht] at hx'; exact Option.some.inj hx'))
          | ((with_reducible refine callS (g := 23) ?_ ?_); kernel_rfl; refine ⟨_, FindEntry_c _ _ _ fs t.1.fId _ hoF.top.row.1 hoF.seen rfl (by omega) (by omega) (fun t ht => by have := yF.2.1 t ht; omega) hfi, ?_⟩; intro r8 w8 e8 h8; have z8 := cutLe e8; obtain ⟨z8, rfl⟩ := h8; replace hoT := hoT.e0 e8; replace hoF := hoF.e0 e8)
          | ((with_reducible refine BIF.s (fun h => absurd h ?_) (fun _ => ?_)); focus (first | (simp; done) | (simp; omega)))
          | ((with_reducible refine BIF.s (fun _ => ?_) (fun h => absurd h ?_)); rotate_left; focus (first | (simp; done) | (simp; omega)))
          | ((with_reducible refine BIF.dec ?_ ?_) <;> intro _)
          | ((with_reducible refine BIF.s ?_ ?_) <;> intro _)
          | (with_reducible refine NEXTK.normal ?_)
          | (with_reducible refine NEXTK.ret ?_)
          | (with_reducible refine NEXTK.exit ?_)
          | (with_reducible refine SEQ.plain ?_)
          | (with_reducible refine hK _ _ ?_)
          | ((with_reducible refine RUNL.agg (fun _ => ?_) ?_); (focus kernel_rfl))
          | (with_reducible refine RUNL.run ?_)
          | ((with_reducible refine AR.ok ?_ ?_); exact ⟨by first | omega | (dsimp only; omega), by first | omega | (dsimp only; omega)⟩)
          | (with_reducible refine AR.wr ?_)
          | ((with_reducible intro w3 e3); try have z3 := cutLe e3)
          | ((with_reducible intro h3); have h4 := Nat.le_of_lt h3; clear h4)))
        exact ⟨i + 1, rfl, ⟨rfl, trivial⟩, rfl, rfl, ⟨by omega, hoT, hoF⟩, by omega⟩
      clear hoT hoF
      repeat (any_goals (
        conv => whnf
        first
        | ((with_reducible refine BIF.dec ?_ ?_) <;> intro _)
        | ((with_reducible refine BIF.s ?_ ?_) <;> intro _)
        | (with_reducible refine NEXTK.normal ?_)
        | (with_reducible refine NEXTK.ret ?_)
        | (with_reducible refine NEXTK.exit ?_)
        | (with_reducible refine SEQ.plain ?_)
        | (with_reducible refine hK _ _ ?_)
        | ((with_reducible refine RUNL.agg (fun _ => ?_) ?_); (focus kernel_rfl))
        | (with_reducible refine RUNL.run ?_)
        | ((with_reducible refine AR.ok ?_ ?_); exact ⟨by first | omega | (dsimp only; omega), by first | omega | (dsimp only; omega)⟩)
        | (with_reducible refine AR.wr ?_)
        | ((with_reducible intro w3 e3); try have z3 := cutLe e3)
        | ((with_reducible intro h3); have h4 := Nat.le_of_lt h3; clear h4)))
    all_goals
      repeat (any_goals (
        conv => whnf
        first
        | ((with_reducible refine callS (g := 24) ?_ ?_); kernel_rfl; refine ⟨_, DrawMergeAlike_c _ _ _ bs _ (by repeat (first | assumption | refine Row.e0 ?_ (by assumption) | (refine Row.box (by assumption) (by assumption) (fun k hk h => notBk hk h (Nat.le_refl _)) ?_))) hn hsm hby, ?_⟩; intro r5 w5 e5 h5; have z5 := cutLe e5; obtain ⟨xs, hlx, hfx, oX⟩ := h5; obtain ⟨aX, cX, rfl, qX, pX⟩ := oX.top.rowx; have sX := oX.seen)
        | ((with_reducible refine callS (g := 25) ?_ ?_); kernel_rfl; refine ⟨_, MergeAlike_c _ _ _ xs _ (by repeat (first | assumption | refine Row.e0 ?_ (by assumption) | (refine Row.box (by assumption) (by assumption) (fun k hk h => notBk hk h (Nat.le_refl _)) ?_))) (by repeat (first | assumption | refine SeenAt.e0 ?_ (by assumption))) rfl (by omega) (by omega) (fit_len hfx), ?_⟩; intro r6 w6 e6 h6; have z6 := cutLe e6; obtain ⟨s6, ms, rfl, hms, oM⟩ := h6; obtain ⟨aM, cM, rfl, qM, pM⟩ := oM.top.rowx; have sM := oM.seen; have yM := bndMergeAlike hms)
        | ((with_reducible refine callS (g := 26) ?_ ?_); kernel_rfl; refine ⟨_, MergeAlikeS_c _ _ _ xs _ (by repeat (first | assumption | refine Row.e0 ?_ (by assumption) | (refine Row.box (by assumption) (by assumption) (fun k hk h => notBk hk h (Nat.le_refl _)) ?_))) (by repeat (first | assumption | refine SeenAt.e0 ?_ (by assumption))) rfl (by omega) (fit_sizT hfx), ?_⟩; intro r7 w7 e7 h7; have z7 := cutLe e7; obtain ⟨s7, ns, rfl, hns, oN⟩ := h7; obtain ⟨aN, cN, rfl, qN, pN⟩ := oN.top.rowx; have sN := oN.seen; have yN := bndMergeAlike hns)
        | ((with_reducible refine callF (g := 17) ?_ ?_); kernel_rfl; refine ⟨_, vEntriesT_c _ _ _ _ _ _ ms ns _ (by repeat (first | assumption | refine Row.e0 ?_ (by assumption) | (refine Row.box (by assumption) (by assumption) (fun k hk h => notBk hk h (Nat.le_refl _)) ?_))) (by repeat (first | assumption | refine SeenAt.e0 ?_ (by assumption))) (by repeat (first | assumption | refine Row.e0 ?_ (by assumption) | (refine Row.box (by assumption) (by assumption) (fun k hk h => notBk hk h (Nat.le_refl _)) ?_))) (by repeat (first | assumption | refine SeenAt.e0 ?_ (by assumption))) rfl rfl (by omega) (by omega) (fun t ht => by have := yM.2.1 t ht; omega) (fun t ht => by have := yN.2.1 t ht; omega) (hms.trans hns.symm), ?_⟩; intro w4 e4; have z4 := cutLe e4)
        | ((with_reducible refine BIF.bne (fun h => absurd rfl h) (fun _ => ?_)))
        | ((with_reducible refine BIF.s (fun h => absurd h ?_) (fun _ => ?_)); focus (first | (simp; done) | (simp; omega)))
        | ((with_reducible refine BIF.s (fun _ => ?_) (fun h => absurd h ?_)); rotate_left; focus (first | (simp; done) | (simp; omega)))
        | ((with_reducible refine BIF.s (fun (hfin : (mergeAllP (xs.map (·.1))).2.2 = true) => ?_) (fun (hfin : (mergeAllP (xs.map (·.1))).2.2 = false) => ?_)))
        | ((with_reducible refine BIF.dec ?_ ?_) <;> intro _)
        | ((with_reducible refine BIF.s ?_ ?_) <;> intro _)
        | (with_reducible refine NEXTK.normal ?_)
        | (with_reducible refine NEXTK.ret ?_)
        | (with_reducible refine NEXTK.exit ?_)
        | (with_reducible refine SEQ.plain ?_)
        | (with_reducible refine hK _ _ ?_)
        | ((with_reducible refine RUNL.agg (fun _ => ?_) ?_); (focus kernel_rfl))
        | (with_reducible refine RUNL.run ?_)
        | ((with_reducible refine AR.ok ?_ ?_); exact ⟨by first | omega | (dsimp only; omega), by first | omega | (dsimp only; omega)⟩)
        | (with_reducible refine AR.wr ?_)
        | ((with_reducible intro w3 e3); try have z3 := cutLe e3)
        | ((with_reducible intro h3); have h4 := Nat.le_of_lt h3; clear h4)))
    all_goals try (
      obtain ⟨g1, g2, g3, g4, g5⟩ := all_law hfin
      have hml : ms.length + (mergeAllP (xs.map (·.1))).2.1 = xs.length := by
        have h1 := congrArg List.length hms
        rw [List.length_map] at h1
        rw [List.length_map] at g4
        omega
      rw [← hms] at g2 g3 g5
      repeat (any_goals (
        conv => whnf
        first
        | ((with_reducible refine callF (g := 22) ?_ ?_); kernel_rfl; refine ⟨_, CopiesT_c _ _ _ xs _ (by repeat (first | assumption | refine Row.e0 ?_ (by assumption) | (refine Row.box (by assumption) (by assumption) (fun k hk h => notBk hk h (Nat.le_refl _)) ?_))) (by repeat (first | assumption | refine SeenAt.e0 ?_ (by assumption))) rfl (by omega) (by omega) (fit_len hfx) g1, ?_⟩; intro w4 e4; have z4 := cutLe e4)
        | ((with_reducible refine callF (g := 22) ?_ ?_); kernel_rfl; refine ⟨_, CopiesT_c _ _ _ ms _ (by repeat (first | assumption | refine Row.e0 ?_ (by assumption) | (refine Row.box (by assumption) (by assumption) (fun k hk h => notBk hk h (Nat.le_refl _)) ?_))) (by repeat (first | assumption | refine SeenAt.e0 ?_ (by assumption))) rfl (by omega) (by omega) (fun t ht => by have := yM.2.1 t ht; omega) g2, ?_⟩; intro w4 e4; have z4 := cutLe e4)
        | ((with_reducible refine callS (g := 25) ?_ ?_); kernel_rfl; refine ⟨_, MergeAlike_c _ _ _ ms _ (by repeat (first | assumption | refine Row.e0 ?_ (by assumption) | (refine Row.box (by assumption) (by assumption) (fun k hk h => notBk hk h (Nat.le_refl _)) ?_))) (by repeat (first | assumption | refine SeenAt.e0 ?_ (by assumption))) rfl (by omega) (by omega) (fun t ht => by have := yM.2.1 t ht; omega), ?_⟩; intro r8 w8 e8 h8; have z8 := cutLe e8; obtain ⟨s8, os, rfl, hos, oO⟩ := h8; obtain ⟨aO, cO, rfl, qO, pO⟩ := oO.top.rowx; have sO := oO.seen; have yO := bndMergeAlike hos; rw [g5] at hos ⊢)
        | ((with_reducible refine BIF.bne (fun h => absurd g3 h) (fun _ => ?_)))
        | ((with_reducible refine BIF.bne (fun h => absurd rfl h) (fun _ => ?_)))
        | ((with_reducible refine BIF.bne (fun h => absurd (by omega) h) (fun _ => ?_)))
        | ((with_reducible refine callF (g := 17) ?_ ?_); kernel_rfl; refine ⟨_, vEntriesT_c _ _ _ _ _ _ os ms _ (by repeat (first | assumption | refine Row.e0 ?_ (by assumption) | (refine Row.box (by assumption) (by assumption) (fun k hk h => notBk hk h (Nat.le_refl _)) ?_))) (by repeat (first | assumption | refine SeenAt.e0 ?_ (by assumption))) (by repeat (first | assumption | refine Row.e0 ?_ (by assumption) | (refine Row.box (by assumption) (by assumption) (fun k hk h => notBk hk h (Nat.le_refl _)) ?_))) (by repeat (first | assumption | refine SeenAt.e0 ?_ (by assumption))) rfl rfl (by omega) (by omega) (fun t ht => by have := yO.2.1 t ht; omega) (fun t ht => by have := yM.2.1 t ht; omega) hos, ?_⟩; intro w4 e4; have z4 := cutLe e4)
        | ((with_reducible refine BIF.s (fun h => absurd h ?_) (fun _ => ?_)); focus (first | (simp; done) | (simp; omega)))
        | ((with_reducible refine BIF.s (fun _ => ?_) (fun h => absurd h ?_)); rotate_left; focus (first | (simp; done) | (simp; omega)))
        | ((with_reducible refine BIF.dec ?_ ?_) <;> intro _)
        | ((with_reducible refine BIF.s ?_ ?_) <;> intro _)
        | (with_reducible refine NEXTK.normal ?_)
        | (with_reducible refine NEXTK.ret ?_)
        | (with_reducible refine NEXTK.exit ?_)
        | (with_reducible refine SEQ.plain ?_)
        | (with_reducible refine hK _ _ ?_)
        | ((with_reducible refine RUNL.agg (fun _ => ?_) ?_); (focus kernel_rfl))
        | (with_reducible refine RUNL.run ?_)
        | ((with_reducible refine AR.ok ?_ ?_); exact ⟨by first | omega | (dsimp only; omega), by first | omega | (dsimp only; omega)⟩)
        | (with_reducible refine AR.wr ?_)
        | ((with_reducible intro w3 e3); try have z3 := cutLe e3)
        | ((with_reducible intro h3); have h4 := Nat.le_of_lt h3; clear h4))))
    all_goals
      repeat (any_goals (
        conv => whnf
        first
        | ((with_reducible refine callS (g := 27) ?_ ?_); kernel_rfl; refine ⟨_, DrawAreAlike_c _ _ _ bs _ (by repeat (first | assumption | refine Row.e0 ?_ (by assumption) | (refine Row.box (by assumption) (by assumption) (fun k hk h => notBk hk h (Nat.le_refl _)) ?_))) hn hsm hby, ?_⟩; intro r5 w5 e5 h5; have z5 := cutLe e5; obtain ⟨s5, ys, p2, q2, rfl, hp2, hq2, hyl, hyf, oY⟩ := h5; obtain ⟨aY, cY, rfl, qY, pY⟩ := oY.top.rowx; have sY := oY.seen; have hkl : (clashesP (ys.map (·.1)) p2 q2).length ≤ 3 := clashesP_len _ _ _)
        | ((with_reducible refine callF (g := 28) ?_ ?_); kernel_rfl; refine ⟨_, AreAlike_c _ _ _ ys p2 q2 _ (by repeat (first | assumption | refine Row.e0 ?_ (by assumption) | (refine Row.box (by assumption) (by assumption) (fun k hk h => notBk hk h (Nat.le_refl _)) ?_))) (by repeat (first | assumption | refine SeenAt.e0 ?_ (by assumption))) rfl (by omega) (by omega) (fit_len hyf), ?_⟩; intro w4 e4; have z4 := cutLe e4)
        | ((with_reducible refine callF (g := 29) ?_ ?_); kernel_rfl; refine ⟨_, AreAlikeS_c _ _ _ ys p2 q2 _ (by repeat (first | assumption | refine Row.e0 ?_ (by assumption) | (refine Row.box (by assumption) (by assumption) (fun k hk h => notBk hk h (Nat.le_refl _)) ?_))) (by repeat (first | assumption | refine SeenAt.e0 ?_ (by assumption))) rfl (by omega) (fit_sizT hyf), ?_⟩; intro w4 e4; have z4 := cutLe e4)
        | ((with_reducible refine callS (g := 21) ?_ ?_); kernel_rfl; refine ⟨_, ClashesOf_c _ _ _ ys p2 q2 _ (by repeat (first | assumption | refine TabIs.e0 ?_ (by assumption))) (by repeat (first | assumption | refine Row.e0 ?_ (by assumption) | (refine Row.box (by assumption) (by assumption) (fun k hk h => notBk hk h (Nat.le_refl _)) ?_))) (by repeat (first | assumption | refine SeenAt.e0 ?_ (by assumption))) rfl (by omega) (by omega) (fit_len hyf), ?_⟩; intro r8 w8 e8 h8; have z8 := cutLe e8; obtain ⟨k8, rfl, oU⟩ := h8; obtain ⟨aU, cU, rfl, qU, pU⟩ := oU.rowx)
        | ((with_reducible refine callS (g := 30) ?_ ?_); kernel_rfl; refine ⟨_, ClashesOfS_c _ _ _ ys p2 q2 _ (by repeat (first | assumption | refine Row.e0 ?_ (by assumption) | (refine Row.box (by assumption) (by assumption) (fun k hk h => notBk hk h (Nat.le_refl _)) ?_))) (by repeat (first | assumption | refine SeenAt.e0 ?_ (by assumption))) rfl (by omega) (fit_sizT hyf), ?_⟩; intro r9 w9 e9 h9; have z9 := cutLe e9; obtain ⟨k9, rfl, oV⟩ := h9; obtain ⟨aV, cV, rfl, qV, pV⟩ := oV.rowx)
        | ((with_reducible refine callF (g := 18) ?_ ?_); kernel_rfl; refine ⟨_, vClashesT_c _ _ _ _ _ _ (clashesP (ys.map (·.1)) p2 q2) (clashesP (ys.map (·.1)) p2 q2) _ (by repeat (first | assumption | refine Row.e0 ?_ (by assumption) | (refine Row.box (by assumption) (by assumption) (fun k hk h => notBk hk h (Nat.le_refl _)) ?_))) (by repeat (first | assumption | refine Row.e0 ?_ (by assumption) | (refine Row.box (by assumption) (by assumption) (fun k hk h => notBk hk h (Nat.le_refl _)) ?_))) rfl rfl (by omega) (by omega) rfl, ?_⟩; intro w4 e4; have z4 := cutLe e4)
        | ((with_reducible refine BIF.s (fun h => absurd h ?_) (fun _ => ?_)); focus (first | (simp; done) | (simp; omega)))
        | ((with_reducible refine BIF.s (fun _ => ?_) (fun h => absurd h ?_)); rotate_left; focus (first | (simp; done) | (simp; omega)))
        | ((with_reducible refine BIF.not ?_))
        | ((with_reducible refine BIF.s (fun (hkn : pairOk (ys.map (·.1)) p2 q2 = true) => ?_) (fun (hkn : pairOk (ys.map (·.1)) p2 q2 = false) => ?_)))
        | ((with_reducible refine BIF.dec ?_ ?_) <;> intro _)
        | ((with_reducible refine BIF.s ?_ ?_) <;> intro _)
        | (with_reducible refine NEXTK.normal ?_)
        | (with_reducible refine NEXTK.ret ?_)
        | (with_reducible refine NEXTK.exit ?_)
        | (with_reducible refine SEQ.plain ?_)
        | (with_reducible refine hK _ _ ?_)
        | ((with_reducible refine RUNL.agg (fun _ => ?_) ?_); (focus kernel_rfl))
        | (with_reducible refine RUNL.run ?_)
        | ((with_reducible refine AR.ok ?_ ?_); exact ⟨by first | omega | (dsimp only; omega), by first | omega | (dsimp only; omega)⟩)
        | (with_reducible refine AR.wr ?_)
        | ((with_reducible intro w3 e3); try have z3 := cutLe e3)
        | ((with_reducible intro h3); have h4 := Nat.le_of_lt h3; clear h4)))
    all_goals
      intro hx'
      refine ⟨?_, hx'⟩
      clear hK
      first
      | rfl
      | (simp only [resV]
         refine congrArg (fun b => Ending.returned (Value.bool b)) ?_
         rw [alike_law hkn, beq_iff_eq, Bool.eq_iff_iff]
         simp)

theorem cellsByte {H : Type} {en : TypeId × Value → H} {w : World} {base : Nat} {spare : Nat → Bool} {held : Bool} (n : Nat) (cs : List Value) (x : DataW H × List MemPlace) (hl : cs.length = 1)
    (h : DataW.trod en Tryz.prog w base spare held n 5 cs = some x) : ∃ y : Int, cs = encB y ∧ (0 ≤ y ∧ y ≤ 255) := by
  match cs, hl with
  | [c0], _ =>
    obtain ⟨z0, q0, -, g0⟩ := DataW.trod_int Tryz.underlying5 h
    simp at q0
    subst q0
    simp only [Lit.wf, Bool.and_eq_true, decide_eq_true_eq] at g0
    exact ⟨z0, rfl, g0.1, g0.2⟩

theorem FnMerging_door (os : Os) (args : Array Value) : laidMetH Tryz.prog Rows.fnMergingRow.laid ((World.doorLaid Tryz.prog 400 os).forCall (fun _ _ => 0) ⟨#[], args, []⟩).memory :=
  laidMetH_of_parts3 (fuel := 8) (laidMet_of_run' 8 (by kernel_rfl) (by kernel_rfl)) (by kernel_rfl) (by kernel_rfl)
theorem FnMerging_tab {W : World} (h : laidMetH Tryz.prog Rows.fnMergingRow.laid W) : Tab W := by
  rw [MakeChecks.laidMetH_plain _ _ _ (by kernel_rfl)] at h
  obtain ⟨ps, ⟨g0, t0, cs0, f0, p0, q0, hg0, ht0, hv0, hd0, ⟨g1, t1, cs1, f1, p1, q1, hg1, ht1, hv1, hd1, ⟨g2, t2, cs2, f2, p2, q2, hg2, ht2, hv2, hd2, _, _⟩, _⟩, _⟩, _, _⟩ := h
  obtain rfl := Option.some.inj ((show Tryz.prog.globalNamed "internal/strconv.uint64pow10" = some 0 by kernel_rfl).symm.trans hg2)
  obtain rfl := Option.some.inj ((show (Tryz.prog.globals[0]?).map (·.type) = some 134 by kernel_rfl).symm.trans ht2)
  unfold Tab Lib.TabIs
  rw [hv2]
  obtain ⟨cs⟩ := cs2
  have e := Lib.cells_of_tab (n := 20) (k := .u64) (zs := Lib.pow10Tab) Tryz.underlying134 Tryz.underlying72 (by kernel_rfl) (by kernel_rfl) hd2
  exact congrArg some (congrArg Array.mk e)
set_option maxRecDepth 100000 in
theorem FnMerging_lifted (os : Os) (started : os.Started) (H : Type) (enc : TypeId × Value → H) :
    ReturnsInHanded {} Tryz.checked os 4 .any (fun w args => (Rows.fnMergingSpec.pre enc Tryz.prog Tryz.f4 [] false w args ∧ laidMetH Tryz.prog Rows.fnMergingRow.laid w) ∧ sizedMet enc Tryz.prog Tryz.f4 (OpenSpec.ofChange Rows.fnMergingSpec) false w args)
      (Rows.fnMergingSpec.post enc Tryz.prog Tryz.f4 false true false false) := by
  refine returnsInHanded_of_change_and (C := Tryz.checked) (X := fun w _ => laidMetH Tryz.prog Rows.fnMergingRow.laid w) (fun _ _ _ hh h => h.of_heap hh) own started (by kernel_rfl) Tryz.func4
    (ChangeSpec.witness_shaped (enc := enc) (C := Tryz.checked) (os := os) (X := fun w _ => laidMetH Tryz.prog Rows.fnMergingRow.laid w) false (World.doorLaid Tryz.prog 400 os) #[.slice none 0 0] 8 rfl (World.shaped_of_RefB (by kernel_rfl) (by kernel_rfl)) (by kernel_rfl) (by kernel_rfl) (by kernel_rfl) (FnMerging_door os _)) ?_
  intro W base args ds gs before hval0 hW _ _ hL _
  have hval : ∀ (j : Nat) t v, Tryz.f4.params[j]? = some t → args[j]? = some v → Value.okWide Tryz.prog W .any base t v := hval0
  have hW' := hW
  obtain ⟨p, q, hA0, hV, rfl, hfz, hnd⟩ := hW
  have hA : DataW.TrodAll enc Tryz.prog W 0 (fun _ => true) true Tryz.f4.params.toList args.toList ds p := hA0
  rw [Tryz.params4] at hA hval
  obtain ⟨v0, vs0, d0, ds0, p0, q0, hargs, rfl, rfl, h0, r0⟩ := trodAll_cons hA
  obtain ⟨rfl, rfl, rfl⟩ := trodAll_nil r0
  obtain rfl : args = #[v0] := by cases args; simp_all
  obtain ⟨rfl, rfl⟩ := trodVars_none hV
  obtain ⟨a0, n0, c0, rfl⟩ := okWide_slice Tryz.underlying34 (hval 0 34 v0 rfl rfl)
  have k0 := h0
  have lt0 : ∀ x ∈ p0, x.block < W.heap.size := by obtain ⟨m, hm⟩ := k0; exact DataW.trod_lt m _ _ _ hm
  obtain ⟨xs0, w0, l0, b0, g0⟩ := open_rows Tryz.underlying34 (by kernel_rfl) cellsByte h0
  clear hA0 hval0
  refine (FnMerging_w W (FnMerging_tab hL) a0 n0 c0 xs0 w0 l0 b0 g0).mono fun e W' ⟨he, x⟩ => ?_
  subst he
  have bel := x.toBelow
  exact ⟨_, rfl, _, _, _, [], _, [], hW', trodAll_mk1 (shut_bool Tryz.underlying4 _), (trodAll_cons_mk (Below.trod laidOut (by kernel_rfl) (of_decide_eq_true (by kernel_rfl)) k0 bel lt0) trodAll_mk0), rfl, bel.frame _, fun h => by cases h⟩
theorem FnMerging_row : Rows.fnMergingRow.holds Tryz.pinned (OpenSpec.ofChange Rows.fnMergingSpec) :=
  OpenClaim.holds_of_wide 4 Tryz.f4 rfl rfl rfl rfl rfl rfl rfl ⟨rfl, rfl, rfl, rfl, rfl⟩ rfl rfl rfl rfl rfl (by kernel_rfl) Tryz.func4 (by kernel_rfl)
    (of_decide_eq_true (by kernel_rfl)) (by unfold Func.isWrapper; first | (rw [if_pos (by decide +kernel)]; kernel_rfl) | (rw [if_neg (by decide +kernel)]; exact ⟨rfl, rfl⟩))
    (fun os started H enc _ => FnMerging_lifted os started H enc)
theorem FnMerging_holds : Rows.FnMergingCardSaid :=
  Claim7.holds_tied_plain_at .later [] [.data, .data, .data] true (true, "d850885bc564c8e58991c92a43ec99a182b9ca086c95713a7e06ef9660f11b1d") false
    FnMerging_row (fun _ h => by cases h) (by kernel_rfl) (fun _ h => by cases h) fnMerging_row_tie rfl ⟨rfl, rfl⟩ (by kernel_rfl) rfl
    (fun f fn hf hfn => by
      obtain rfl : f = 4 := Option.some.inj ((show Tryz.prog.funcNamed Rows.fnMergingRow.func = some 4 by kernel_rfl).symm.trans hf) |>.symm
      obtain rfl : fn = Tryz.f4 := (Option.some.inj (Tryz.func4.symm.trans hfn)).symm
      exact ⟨by kernel_rfl, fun j t ht => by
        rw [Tryz.params4] at ht
        have hm : t ∈ [34] := by simpa using Array.mem_of_getElem? ht
        have hall : ([34].all fun u => !Tryz.prog.wantsStandIn u) = true := by kernel_rfl
        exact (show Tryz.prog.wantsStandIn t = false by simpa using List.all_eq_true.1 hall t hm)⟩)
    (by kernel_rfl)
end Go.Proofs.YtpddilkonkkppaaGreatDoor

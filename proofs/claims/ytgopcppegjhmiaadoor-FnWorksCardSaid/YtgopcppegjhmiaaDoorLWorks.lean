/- FnWorks returns true for every argument and leaves its argument as it was. -/
import Derived.Test.YtgopcppegjhmiaaDoorRows
import Derived.Test.YtgopcppegjhmiaaDoorRepQ
import Derived.Test.YtgopcppegjhmiaaDoorRepT
import Derived.Test.YtgopcppegjhmiaaDoorDraw4
import Derived.Test.YtgopcppegjhmiaaDoorCards
import Derived.Test.YtgopcppegjhmiaaDoorTie
import Derived.LaidMore
import Derived.Stop.Joined
import Derived.SevenTiedAt
import Derived.Handed
namespace Go.Proofs.YtgopcppegjhmiaaDoor
open Go Go.X Go.Proofs Go.ChangeShapes Go.WideShapes Go.ChangeAt Go.RowKit
open Go.ChangeMaps (open_string shut_string)
set_option maxHeartbeats 1000000
set_option maxRecDepth 20000
set_option linter.unusedVariables false
set_option linter.unusedSimpArgs false
set_option maxHeartbeats 16000000 in
theorem FnWorks_w (w : World) (ht : Tab w) (a : Option Addr) (n c : Nat) (bs : List Int) (hr : Row w a 1 (bs.map encB)) (hn : bs.length = n) (hm : n ≤ 9223372036854775807) (hby : ∀ y ∈ bs, 0 ≤ y ∧ y ≤ 255) :
    Calls Tryd.prog 3 #[.slice a n c] w fun e w' => e = .returned (.bool true) ∧ E0 w w' := by
  refine enterK Non 277 Tryd.func3 rfl rfl rfl fun K hK => ?_
  by_cases hbig : (65536 : Int) < n
  · repeat (any_goals (
      conv => whnf
      first
      | ((with_reducible refine callF (g := 4) ?_ ?_); kernel_rfl; refine ⟨_, rBig_c _ _ _ _, ?_⟩; intro w4 e4; have z4 := cutLe e4)
      | ((with_reducible refine BIF.s (fun h => absurd h ?_) (fun _ => ?_)); focus (first | (simp; done) | (simp; omega)))
      | ((with_reducible refine BIF.s (fun _ => ?_) (fun h => absurd h ?_)); rotate_left; focus (first | (simp; done) | (simp; omega)))
      | ((with_reducible refine BIF.dec ?_ ?_) <;> intro _)
      | ((with_reducible refine BIF.s ?_ ?_) <;> intro _)
      | (with_reducible refine NEXTK.normal ?_)
      | (with_reducible refine NEXTK.ret ?_)
      | (with_reducible refine NEXTK.exit ?_)
      | (with_reducible refine SEQ.plain ?_)
      | (with_reducible refine hK _ _ ?_)
      | ((with_reducible refine RUNL.agg (fun _ => ?_) ?_); (focus kernel_rfl))
      | (with_reducible refine RUNL.run ?_)
      | ((with_reducible refine AR.ok ?_ ?_); exact ⟨by first | omega | (dsimp only; omega), by first | omega | (dsimp only; omega)⟩)
      | (with_reducible refine AR.wr ?_)
      | ((with_reducible intro w3 e3); try have z3 := cutLe e3)
      | ((with_reducible intro h3); have h4 := Nat.le_of_lt h3; clear h4)))
    intro hx
    exact ⟨rfl, hx⟩
  · have hsm : n ≤ 65536 := by omega
    repeat (any_goals (
      conv => whnf
      first
      | ((with_reducible refine callF (g := 4) ?_ ?_); kernel_rfl; refine ⟨_, rBig_c _ _ _ _, ?_⟩; intro w4 e4; have z4 := cutLe e4)
      | ((with_reducible refine BIF.s (fun h => absurd h ?_) (fun _ => ?_)); focus (first | (simp; done) | (simp; omega)))
      | ((with_reducible refine BIF.s (fun _ => ?_) (fun h => absurd h ?_)); rotate_left; focus (first | (simp; done) | (simp; omega)))
      | ((with_reducible refine callS (g := 5) ?_ ?_); kernel_rfl; refine ⟨_, DrawAddRepair_c _ _ _ bs _ (by repeat (first | assumption | refine Row.e0 ?_ (by assumption) | (refine Row.box (by assumption) (by assumption) (fun k hk h => notBk hk h (Nat.le_refl _)) ?_))) hn hsm hby, ?_⟩; intro r5 w5 e5 h5; have z6 := cutLe e5; obtain ⟨s5, t5, xs, ys, r, rfl, hrf, ⟨hl5, hf5, o5⟩, hl6, hf6, o6⟩ := h5; obtain ⟨bx, dx, rfl, qx, px⟩ := o5.rowx; obtain ⟨by', dy, rfl, qy, py⟩ := o6.rowx; have hbA := addP_len xs ys r; have hbU := untP_len xs ys; have hbC := countP'_len xs ys)
      | ((with_reducible refine callS (g := 6) ?_ ?_); kernel_rfl; refine ⟨_, AddRepair_c _ _ _ _ _ _ xs ys r _ (by repeat (first | assumption | refine Row.e0 ?_ (by assumption) | (refine Row.box (by assumption) (by assumption) (fun k hk h => notBk hk h (Nat.le_refl _)) ?_))) (by repeat (first | assumption | refine Row.e0 ?_ (by assumption) | (refine Row.box (by assumption) (by assumption) (fun k hk h => notBk hk h (Nat.le_refl _)) ?_))) rfl rfl (by omega) (by omega) (by assumption), ?_⟩; intro r5 w5 e5 h5; have z6 := cutLe e5; obtain ⟨s5, rfl, o5⟩ := h5; obtain ⟨b5, d5, rfl, q5, p5⟩ := o5.rowx)
      | ((with_reducible refine callS (g := 7) ?_ ?_); kernel_rfl; refine ⟨_, AddRepairS_c _ _ _ _ _ _ xs ys r _ (by repeat (first | assumption | refine Row.e0 ?_ (by assumption) | (refine Row.box (by assumption) (by assumption) (fun k hk h => notBk hk h (Nat.le_refl _)) ?_))) (by repeat (first | assumption | refine Row.e0 ?_ (by assumption) | (refine Row.box (by assumption) (by assumption) (fun k hk h => notBk hk h (Nat.le_refl _)) ?_))) rfl rfl (by omega) (by omega) (by assumption), ?_⟩; intro r5 w5 e5 h5; have z6 := cutLe e5; obtain ⟨s5, rfl, o5⟩ := h5; obtain ⟨b5, d5, rfl, q5, p5⟩ := o5.rowx)
      | ((with_reducible refine callF (g := 8) ?_ ?_); kernel_rfl; refine ⟨_, rRepairs_c _ _ _ _ _ _ _ _ _ (by repeat (first | assumption | refine Row.e0 ?_ (by assumption) | (refine Row.box (by assumption) (by assumption) (fun k hk h => notBk hk h (Nat.le_refl _)) ?_))) (by repeat (first | assumption | refine Row.e0 ?_ (by assumption) | (refine Row.box (by assumption) (by assumption) (fun k hk h => notBk hk h (Nat.le_refl _)) ?_))) rfl rfl (by omega) (by omega), ?_⟩; intro w4 e4; have z4 := cutLe e4)
      | ((with_reducible refine callS (g := 9) ?_ ?_); kernel_rfl; refine ⟨_, CountWorks_c _ _ _ _ _ _ xs ys _ (by repeat (first | assumption | refine Row.e0 ?_ (by assumption) | (refine Row.box (by assumption) (by assumption) (fun k hk h => notBk hk h (Nat.le_refl _)) ?_))) (by repeat (first | assumption | refine Row.e0 ?_ (by assumption) | (refine Row.box (by assumption) (by assumption) (fun k hk h => notBk hk h (Nat.le_refl _)) ?_))) rfl rfl (by omega) (by omega) (by assumption), ?_⟩; intro r5 w5 e5 h5; have z6 := cutLe e5; obtain ⟨s5, rfl, o5⟩ := h5; obtain ⟨bc, dc, rfl, qc, pc⟩ := o5.rowx)
      | ((with_reducible refine callS (g := 10) ?_ ?_); kernel_rfl; refine ⟨_, CountWorksS_c _ _ _ _ _ _ xs ys _ (by repeat (first | assumption | refine Row.e0 ?_ (by assumption) | (refine Row.box (by assumption) (by assumption) (fun k hk h => notBk hk h (Nat.le_refl _)) ?_))) (by repeat (first | assumption | refine Row.e0 ?_ (by assumption) | (refine Row.box (by assumption) (by assumption) (fun k hk h => notBk hk h (Nat.le_refl _)) ?_))) rfl rfl (by omega) (by omega) (by assumption), ?_⟩; intro r5 w5 e5 h5; have z6 := cutLe e5; obtain ⟨s5, rfl, o5⟩ := h5; obtain ⟨b5, d5, rfl, q5, p5⟩ := o5.rowx)
      | ((with_reducible refine callF (g := 11) ?_ ?_); kernel_rfl; refine ⟨_, rInts_c _ _ _ _ _ _ _ _ _ (by repeat (first | assumption | refine Row.e0 ?_ (by assumption) | (refine Row.box (by assumption) (by assumption) (fun k hk h => notBk hk h (Nat.le_refl _)) ?_))) (by repeat (first | assumption | refine Row.e0 ?_ (by assumption) | (refine Row.box (by assumption) (by assumption) (fun k hk h => notBk hk h (Nat.le_refl _)) ?_))) rfl rfl (by omega) (by omega), ?_⟩; intro w4 e4; have z4 := cutLe e4)
      | ((with_reducible refine BIF.s (fun (hok : (addP xs ys r).2 = true) => ?_) (fun hok => ?_)); obtain ⟨g0, g1, g2, g3, g4, g5, g6, g7, g8⟩ := add_facts hok)
      | ((with_reducible refine BIF.dec ?_ ?_) <;> intro _)
      | ((with_reducible refine BIF.s ?_ ?_) <;> intro _)
      | (with_reducible refine NEXTK.normal ?_)
      | (with_reducible refine NEXTK.ret ?_)
      | (with_reducible refine NEXTK.exit ?_)
      | (with_reducible refine SEQ.plain ?_)
      | (with_reducible refine hK _ _ ?_)
      | ((with_reducible refine RUNL.agg (fun _ => ?_) ?_); (focus kernel_rfl))
      | (with_reducible refine RUNL.run ?_)
      | ((with_reducible refine AR.ok ?_ ?_); exact ⟨by first | omega | (dsimp only; omega), by first | omega | (dsimp only; omega)⟩)
      | (with_reducible refine AR.wr ?_)
      | ((with_reducible intro w3 e3); try have z3 := cutLe e3)
      | ((with_reducible intro h3); have h4 := Nat.le_of_lt h3; clear h4)))
    all_goals
      repeat (any_goals (
        conv => whnf
        first
        | ((with_reducible refine callS (g := 9) ?_ ?_); kernel_rfl; refine ⟨_, CountWorks_c _ _ _ _ _ _ xs (addP xs ys r).1 _ (by repeat (first | assumption | refine Row.e0 ?_ (by assumption) | (refine Row.box (by assumption) (by assumption) (fun k hk h => notBk hk h (Nat.le_refl _)) ?_))) (by repeat (first | assumption | refine Row.e0 ?_ (by assumption) | (refine Row.box (by assumption) (by assumption) (fun k hk h => notBk hk h (Nat.le_refl _)) ?_))) rfl rfl (by omega) (by omega) (by assumption), ?_⟩; intro r5 w5 e5 h5; have z6 := cutLe e5; obtain ⟨s5, rfl, o7⟩ := h5; obtain ⟨ba, da, rfl, qa, pa⟩ := o7.rowx; have isa := qa.isSome (by simp; omega); have isc := qc.isSome (by simp; omega))
        | ((with_reducible refine DRAW.quietE ?_ ?_ ?_); kernel_rfl; kernel_rfl)
        | ((with_reducible refine BIF.s (fun h => absurd h ?_) (fun _ => ?_)); focus (simp [g0]; done))
        | ((with_reducible refine BIF.s (fun _ => ?_) (fun h => absurd h ?_)); rotate_left; focus (simp [g0]; done))
        | ((with_reducible refine BIF.s (fun h => absurd h ?_) (fun _ => ?_)); focus (simp [g3]; done))
        | ((with_reducible refine BIF.s (fun _ => ?_) (fun h => absurd h ?_)); rotate_left; focus (simp [g3]; done))
        | ((with_reducible refine BIF.s (fun h => absurd h ?_) (fun _ => ?_)); focus (simp [g1]; done))
        | ((with_reducible refine BIF.s (fun _ => ?_) (fun h => absurd h ?_)); rotate_left; focus (simp [g1]; done))
        | ((with_reducible refine BIF.s (fun h => absurd h ?_) (fun _ => ?_)); focus (simp [g2]; done))
        | ((with_reducible refine BIF.s (fun _ => ?_) (fun h => absurd h ?_)); rotate_left; focus (simp [g2]; done))
        | ((with_reducible refine OBL.mk ?_ (fun _ => ?_)); exact ⟨by first | omega | (dsimp only; omega), by first | omega | (dsimp only; omega), isa⟩)
        | ((with_reducible refine OBL.mk ?_ (fun _ => ?_)); exact ⟨by first | omega | (dsimp only; omega), by first | omega | (dsimp only; omega), isc⟩)
        | ((with_reducible refine ELD.atNow (enc := encI) (xs := (countP' xs (addP xs ys r).1).1) (r.fWork - 1).toNat qa ?_ ?_ (fun v hv => ?_)); (focus omega); (focus omega))
        | ((with_reducible refine ELD.atNow (enc := encI) (xs := (countP' xs ys).1) (r.fWork - 1).toNat (by repeat (first | assumption | refine Row.e0 ?_ (by assumption) | (refine Row.box (by assumption) (by assumption) (fun k hk h => notBk hk h (Nat.le_refl _)) ?_))) ?_ ?_ (fun u hu => ?_)); (focus omega); (focus omega); obtain ⟨k1, k2⟩ := g6 u v hu hv)
        | ((with_reducible refine BIF.bne (fun h => absurd k1 h) (fun _ => ?_)))
        | ((with_reducible refine BIF.bne (fun h => absurd g8 h) (fun _ => ?_)))
        | ((with_reducible refine callQ (g := 12) ?_ ?_); kernel_rfl; refine ⟨_, fun w8 e8 => rSum_c _ _ _ _ _ (Row.e0 (by repeat (first | assumption | refine Row.e0 ?_ (by assumption) | (refine Row.box (by assumption) (by assumption) (fun k hk h => notBk hk h (Nat.le_refl _)) ?_))) e8) rfl (by omega) g7, ?_⟩)
        | ((with_reducible refine BIF.s (fun h => absurd h ?_) (fun _ => ?_)); focus (first | (simp; done) | (simp; omega)))
        | ((with_reducible refine BIF.s (fun _ => ?_) (fun h => absurd h ?_)); rotate_left; focus (first | (simp; done) | (simp; omega)))
        | ((with_reducible refine callS (g := 13) ?_ ?_); kernel_rfl; refine ⟨_, DrawWorstSheets_c _ _ _ bs _ (by repeat (first | assumption | refine Row.e0 ?_ (by assumption) | (refine Row.box (by assumption) (by assumption) (fun k hk h => notBk hk h (Nat.le_refl _)) ?_))) hn hsm hby, ?_⟩; intro r5 w5 e5 h5; have z6 := cutLe e5; obtain ⟨s5, t5, us, vs, i2, rfl, hi2, ⟨hl7, hf7, o8⟩, hl8, hf8, o9⟩ := h5; obtain ⟨bu, du, rfl, qu, pu⟩ := o8.rowx; obtain ⟨bv, dv, rfl, qv, pv⟩ := o9.rowx; have hbW := worstP_len us vs i2)
        | ((with_reducible refine callS (g := 14) ?_ ?_); kernel_rfl; refine ⟨_, WorstSheets_c _ _ _ _ _ _ us vs _ _ (by repeat (first | assumption | refine Row.e0 ?_ (by assumption) | (refine Row.box (by assumption) (by assumption) (fun k hk h => notBk hk h (Nat.le_refl _)) ?_))) (by repeat (first | assumption | refine Row.e0 ?_ (by assumption) | (refine Row.box (by assumption) (by assumption) (fun k hk h => notBk hk h (Nat.le_refl _)) ?_))) rfl rfl (by omega) (by omega) (by assumption), ?_⟩; intro r5 w5 e5 h5; have z6 := cutLe e5; obtain ⟨s5, rfl, o10⟩ := h5; obtain ⟨bo, do', rfl, qo, po⟩ := o10.rowx)
        | ((with_reducible refine callS (g := 15) ?_ ?_); kernel_rfl; refine ⟨_, WorstSheetsS_c _ _ _ _ _ _ us vs _ _ (by repeat (first | assumption | refine Row.e0 ?_ (by assumption) | (refine Row.box (by assumption) (by assumption) (fun k hk h => notBk hk h (Nat.le_refl _)) ?_))) (by repeat (first | assumption | refine Row.e0 ?_ (by assumption) | (refine Row.box (by assumption) (by assumption) (fun k hk h => notBk hk h (Nat.le_refl _)) ?_))) rfl rfl (by omega) (by omega) (by assumption), ?_⟩; intro r5 w5 e5 h5; have z6 := cutLe e5; obtain ⟨s5, rfl, o5⟩ := h5; obtain ⟨b5, d5, rfl, q5, p5⟩ := o5.rowx)
        | ((with_reducible refine callF (g := 11) ?_ ?_); kernel_rfl; refine ⟨_, rInts_c _ _ _ _ _ _ _ _ _ (by repeat (first | assumption | refine Row.e0 ?_ (by assumption) | (refine Row.box (by assumption) (by assumption) (fun k hk h => notBk hk h (Nat.le_refl _)) ?_))) (by repeat (first | assumption | refine Row.e0 ?_ (by assumption) | (refine Row.box (by assumption) (by assumption) (fun k hk h => notBk hk h (Nat.le_refl _)) ?_))) rfl rfl (by omega) (by omega), ?_⟩; intro w4 e4; have z4 := cutLe e4)
        | ((with_reducible refine BIF.dec ?_ ?_) <;> intro _)
        | ((with_reducible refine BIF.s ?_ ?_) <;> intro _)
        | (with_reducible refine NEXTK.normal ?_)
        | (with_reducible refine NEXTK.ret ?_)
        | (with_reducible refine NEXTK.exit ?_)
        | (with_reducible refine SEQ.plain ?_)
        | (with_reducible refine hK _ _ ?_)
        | ((with_reducible refine RUNL.agg (fun _ => ?_) ?_); (focus kernel_rfl))
        | (with_reducible refine RUNL.run ?_)
        | ((with_reducible refine AR.ok ?_ ?_); exact ⟨by first | omega | (dsimp only; omega), by first | omega | (dsimp only; omega)⟩)
        | (with_reducible refine AR.wr ?_)
        | ((with_reducible intro w3 e3); try have z3 := cutLe e3)
        | ((with_reducible intro h3); have h4 := Nat.le_of_lt h3; clear h4)))
    all_goals
      have rx4 : Row w4 bx 4 (xs.map encDmg) := (by repeat (first | assumption | refine Row.e0 ?_ (by assumption) | (refine Row.box (by assumption) (by assumption) (fun k hk h => notBk hk h (Nat.le_refl _)) ?_)))
      have ry4 : Row w4 by' 3 (ys.map encRep) := (by repeat (first | assumption | refine Row.e0 ?_ (by assumption) | (refine Row.box (by assumption) (by assumption) (fun k hk h => notBk hk h (Nat.le_refl _)) ?_)))
      have ru4 : Row w4 bu 4 (us.map encDmg) := (by repeat (first | assumption | refine Row.e0 ?_ (by assumption) | (refine Row.box (by assumption) (by assumption) (fun k hk h => notBk hk h (Nat.le_refl _)) ?_)))
      have rv4 : Row w4 bv 3 (vs.map encRep) := (by repeat (first | assumption | refine Row.e0 ?_ (by assumption) | (refine Row.box (by assumption) (by assumption) (fun k hk h => notBk hk h (Nat.le_refl _)) ?_)))
      have ro4 : Row w4 bo 1 ((worstP us vs i2).1.map encI) := (by repeat (first | assumption | refine Row.e0 ?_ (by assumption) | (refine Row.box (by assumption) (by assumption) (fun k hk h => notBk hk h (Nat.le_refl _)) ?_)))
      conv => whnf
      refine LOOP.mk Nat (fun k => [(24, .v (.int .i64 k)), (23, .v (.int .i64 (gLast us vs k)))]) (fun k wr => k ≤ (worstP us vs i2).1.length ∧ Row wr bx 4 (xs.map encDmg) ∧ Row wr by' 3 (ys.map encRep) ∧ Row wr bu 4 (us.map encDmg) ∧ Row wr bv 3 (vs.map encRep) ∧ Row wr bo 1 ((worstP us vs i2).1.map encI)) (fun k => (worstP us vs i2).1.length - k) 0 rfl ⟨rfl, rfl, trivial⟩ ⟨Nat.zero_le _, rx4, ry4, ru4, rv4, ro4⟩ ?_
      clear rx4 ry4 ru4 rv4 ro4
      rintro k wr hXr ⟨hk, rx, ry, ru, rv, ro⟩
      have rb := hr.ext hXr (mAddr_Non _)
      have ht2 : Tab wr := TabIs.e0 ht hXr
      clear hXr
      dsimp only
      conv => whnf
      repeat (first | ((with_reducible refine NEXTK.normal ?_); conv => whnf) | ((with_reducible refine NEXTK.exit ?_); conv => whnf) | ((with_reducible refine NEXTK.ret ?_); conv => whnf) | ((with_reducible refine SEQ.plain ?_); conv => whnf) | ((with_reducible refine AR.ok ?_ ?_); exact ⟨by omega, by omega⟩; conv => whnf))
      refine BIF.dec (fun hlt => ?_) (fun hlt => ?_)
      · have his := ro.isSome (by simp; omega)
        obtain ⟨s, hs⟩ : ∃ s, (worstP us vs i2).1[k]? = some s := ⟨(worstP us vs i2).1[k]'(by omega), by simp⟩
        obtain ⟨k1, k2, k3, k4⟩ := worst_law k s hs
        repeat (any_goals (
          conv => whnf
          first
          | ((with_reducible refine OBL.mk ?_ (fun _ => ?_)); exact ⟨by first | omega | (dsimp only; omega), by first | omega | (dsimp only; omega), his⟩)
          | ((with_reducible refine ELD.atNow (enc := encI) (xs := (worstP us vs i2).1) k ro rfl (by omega) (fun x' hx' => ?_)); obtain rfl : s = x' := by (rw [hs] at hx'; exact Option.some.inj hx'))
          | ((with_reducible refine callF (g := 16) ?_ ?_); kernel_rfl; refine ⟨_, DamageOn_c _ _ _ _ _ _ us vs _ _ _ (by repeat (first | assumption | refine Row.e0 ?_ (by assumption) | (refine Row.box (by assumption) (by assumption) (fun k hk h => notBk hk h (Nat.le_refl _)) ?_))) (by repeat (first | assumption | refine Row.e0 ?_ (by assumption) | (refine Row.box (by assumption) (by assumption) (fun k hk h => notBk hk h (Nat.le_refl _)) ?_))) rfl rfl (by omega) (by omega) (by assumption), ?_⟩; intro w4 e4; have z4 := cutLe e4)
          | ((with_reducible refine callF (g := 17) ?_ ?_); kernel_rfl; refine ⟨_, GradeOf_c _ _, ?_⟩; intro w4 e4; have z4 := cutLe e4)
          | ((with_reducible refine BIF.s (fun h => absurd h ?_) (fun _ => ?_)); focus (simp [k1]; done))
          | ((with_reducible refine BIF.s (fun _ => ?_) (fun h => absurd h ?_)); rotate_left; focus (simp [k1]; done))
          | ((with_reducible refine BIF.s (fun h => absurd h ?_) (fun _ => ?_)); focus (simp [k2]; done))
          | ((with_reducible refine BIF.s (fun _ => ?_) (fun h => absurd h ?_)); rotate_left; focus (simp [k2]; done))
          | ((with_reducible refine BIF.dec (fun h => absurd h ?_) (fun _ => ?_)); (focus (rw [if_pos k2, k3]; omega)))
          | ((with_reducible refine BIF.dec ?_ ?_) <;> intro _)
          | ((with_reducible refine BIF.s ?_ ?_) <;> intro _)
          | (with_reducible refine NEXTK.normal ?_)
          | (with_reducible refine NEXTK.ret ?_)
          | (with_reducible refine NEXTK.exit ?_)
          | (with_reducible refine SEQ.plain ?_)
          | (with_reducible refine hK _ _ ?_)
          | ((with_reducible refine RUNL.agg (fun _ => ?_) ?_); (focus kernel_rfl))
          | (with_reducible refine RUNL.run ?_)
          | ((with_reducible refine AR.ok ?_ ?_); exact ⟨by first | omega | (dsimp only; omega), by first | omega | (dsimp only; omega)⟩)
          | (with_reducible refine AR.wr ?_)
          | ((with_reducible intro w3 e3); try have z3 := cutLe e3)
          | ((with_reducible intro h3); have h4 := Nat.le_of_lt h3; clear h4)))
        refine ⟨k + 1, rfl, ⟨rfl, ?_, trivial⟩, rfl, rfl, ⟨by omega, (by repeat (first | assumption | refine Row.e0 ?_ (by assumption) | (refine Row.box (by assumption) (by assumption) (fun k hk h => notBk hk h (Nat.le_refl _)) ?_))), (by repeat (first | assumption | refine Row.e0 ?_ (by assumption) | (refine Row.box (by assumption) (by assumption) (fun k hk h => notBk hk h (Nat.le_refl _)) ?_))), (by repeat (first | assumption | refine Row.e0 ?_ (by assumption) | (refine Row.box (by assumption) (by assumption) (fun k hk h => notBk hk h (Nat.le_refl _)) ?_))), (by repeat (first | assumption | refine Row.e0 ?_ (by assumption) | (refine Row.box (by assumption) (by assumption) (fun k hk h => notBk hk h (Nat.le_refl _)) ?_))), (by repeat (first | assumption | refine Row.e0 ?_ (by assumption) | (refine Row.box (by assumption) (by assumption) (fun k hk h => notBk hk h (Nat.le_refl _)) ?_)))⟩, by omega⟩
        refine congrArg (fun z => TV.v (Value.int .i64 z)) ?_
        rw [if_pos k2, k3]
        rfl
      repeat (any_goals (
        conv => whnf
        first
        | ((with_reducible refine callS (g := 18) ?_ ?_); kernel_rfl; refine ⟨_, UntouchedSheets_c _ _ _ _ _ _ xs ys _ (by repeat (first | assumption | refine Row.e0 ?_ (by assumption) | (refine Row.box (by assumption) (by assumption) (fun k hk h => notBk hk h (Nat.le_refl _)) ?_))) (by repeat (first | assumption | refine Row.e0 ?_ (by assumption) | (refine Row.box (by assumption) (by assumption) (fun k hk h => notBk hk h (Nat.le_refl _)) ?_))) rfl rfl (by omega) (by omega) (by assumption), ?_⟩; intro r5 w5 e5 h5; have z6 := cutLe e5; obtain ⟨s5, rfl, o11⟩ := h5; obtain ⟨bn, dn, rfl, qn, pn⟩ := o11.rowx)
        | ((with_reducible refine callS (g := 19) ?_ ?_); kernel_rfl; refine ⟨_, UntouchedSheetsS_c _ _ _ _ _ _ xs ys _ (by repeat (first | assumption | refine Row.e0 ?_ (by assumption) | (refine Row.box (by assumption) (by assumption) (fun k hk h => notBk hk h (Nat.le_refl _)) ?_))) (by repeat (first | assumption | refine Row.e0 ?_ (by assumption) | (refine Row.box (by assumption) (by assumption) (fun k hk h => notBk hk h (Nat.le_refl _)) ?_))) rfl rfl (by omega) (by omega) (by assumption), ?_⟩; intro r5 w5 e5 h5; have z6 := cutLe e5; obtain ⟨s5, rfl, o5⟩ := h5; obtain ⟨b5, d5, rfl, q5, p5⟩ := o5.rowx)
        | ((with_reducible refine callF (g := 11) ?_ ?_); kernel_rfl; refine ⟨_, rInts_c _ _ _ _ _ _ _ _ _ (by repeat (first | assumption | refine Row.e0 ?_ (by assumption) | (refine Row.box (by assumption) (by assumption) (fun k hk h => notBk hk h (Nat.le_refl _)) ?_))) (by repeat (first | assumption | refine Row.e0 ?_ (by assumption) | (refine Row.box (by assumption) (by assumption) (fun k hk h => notBk hk h (Nat.le_refl _)) ?_))) rfl rfl (by omega) (by omega), ?_⟩; intro w4 e4; have z4 := cutLe e4)
        | ((with_reducible refine BIF.s (fun h => absurd h ?_) (fun _ => ?_)); focus (first | (simp; done) | (simp; omega)))
        | ((with_reducible refine BIF.s (fun _ => ?_) (fun h => absurd h ?_)); rotate_left; focus (first | (simp; done) | (simp; omega)))
        | ((with_reducible refine BIF.dec ?_ ?_) <;> intro _)
        | ((with_reducible refine BIF.s ?_ ?_) <;> intro _)
        | (with_reducible refine NEXTK.normal ?_)
        | (with_reducible refine NEXTK.ret ?_)
        | (with_reducible refine NEXTK.exit ?_)
        | (with_reducible refine SEQ.plain ?_)
        | (with_reducible refine hK _ _ ?_)
        | ((with_reducible refine RUNL.agg (fun _ => ?_) ?_); (focus kernel_rfl))
        | (with_reducible refine RUNL.run ?_)
        | ((with_reducible refine AR.ok ?_ ?_); exact ⟨by first | omega | (dsimp only; omega), by first | omega | (dsimp only; omega)⟩)
        | (with_reducible refine AR.wr ?_)
        | ((with_reducible intro w3 e3); try have z3 := cutLe e3)
        | ((with_reducible intro h3); have h4 := Nat.le_of_lt h3; clear h4)))
      have ry4 : Row w4 by' 3 (ys.map encRep) := (by repeat (first | assumption | refine Row.e0 ?_ (by assumption) | (refine Row.box (by assumption) (by assumption) (fun k hk h => notBk hk h (Nat.le_refl _)) ?_)))
      have rn4 : Row w4 bn 1 ((untP xs ys).1.map encI) := (by repeat (first | assumption | refine Row.e0 ?_ (by assumption) | (refine Row.box (by assumption) (by assumption) (fun k hk h => notBk hk h (Nat.le_refl _)) ?_)))
      clear rx ry ru rv ro
      conv => whnf
      refine LOOP.mk Nat (fun k => [(33, .v (.int .i64 k))]) (fun k wr => k ≤ ys.length ∧ Row wr by' 3 (ys.map encRep) ∧ Row wr bn 1 ((untP xs ys).1.map encI)) (fun k => ys.length - k) 0 rfl ⟨rfl, trivial⟩ ⟨Nat.zero_le _, ry4, rn4⟩ ?_
      clear ry4 rn4
      rintro q ws hXs ⟨hq, ry, rn⟩
      have rb2 := hr.ext hXs (mAddr_Non _)
      have ht3 : Tab ws := TabIs.e0 ht hXs
      clear hXs
      dsimp only
      conv => whnf
      repeat (first | ((with_reducible refine NEXTK.normal ?_); conv => whnf) | ((with_reducible refine NEXTK.exit ?_); conv => whnf) | ((with_reducible refine NEXTK.ret ?_); conv => whnf) | ((with_reducible refine SEQ.plain ?_); conv => whnf) | ((with_reducible refine AR.ok ?_ ?_); exact ⟨by omega, by omega⟩; conv => whnf))
      refine BIF.dec (fun hlt => ?_) (fun hlt => ?_)
      · have his := ry.isSome (by simp; omega)
        obtain ⟨x, hx⟩ : ∃ x, ys[q]? = some x := ⟨ys[q]'(by omega), by simp⟩
        have hun := @unt_law xs ys x (List.mem_of_getElem? hx)
        repeat (any_goals (
          conv => whnf
          first
          | ((with_reducible refine OBL.mk ?_ (fun _ => ?_)); exact ⟨by first | omega | (dsimp only; omega), by first | omega | (dsimp only; omega), his⟩)
          | ((with_reducible refine ELD.atNow (enc := encRep) (xs := ys) q ry rfl (by omega) (fun x' hx' => ?_)); obtain rfl : x = x' := by (rw [hx] at hx'; exact Option.some.inj hx'))
          | ((with_reducible refine callF (g := 20) ?_ ?_); kernel_rfl; refine ⟨_, rHas_c _ _ _ _ _ _ (by repeat (first | assumption | refine Row.e0 ?_ (by assumption) | (refine Row.box (by assumption) (by assumption) (fun k hk h => notBk hk h (Nat.le_refl _)) ?_))) rfl (by omega), ?_⟩; intro w4 e4; have z4 := cutLe e4)
          | ((with_reducible refine BIF.s (fun h => absurd h ?_) (fun _ => ?_)); focus (simp [hun]; done))
          | ((with_reducible refine BIF.s (fun _ => ?_) (fun h => absurd h ?_)); rotate_left; focus (simp [hun]; done))
          | ((with_reducible refine BIF.dec ?_ ?_) <;> intro _)
          | ((with_reducible refine BIF.s ?_ ?_) <;> intro _)
          | (with_reducible refine NEXTK.normal ?_)
          | (with_reducible refine NEXTK.ret ?_)
          | (with_reducible refine NEXTK.exit ?_)
          | (with_reducible refine SEQ.plain ?_)
          | (with_reducible refine hK _ _ ?_)
          | ((with_reducible refine RUNL.agg (fun _ => ?_) ?_); (focus kernel_rfl))
          | (with_reducible refine RUNL.run ?_)
          | ((with_reducible refine AR.ok ?_ ?_); exact ⟨by first | omega | (dsimp only; omega), by first | omega | (dsimp only; omega)⟩)
          | (with_reducible refine AR.wr ?_)
          | ((with_reducible intro w3 e3); try have z3 := cutLe e3)
          | ((with_reducible intro h3); have h4 := Nat.le_of_lt h3; clear h4)))
        exact ⟨q + 1, rfl, ⟨rfl, trivial⟩, rfl, rfl, ⟨by omega, (by repeat (first | assumption | refine Row.e0 ?_ (by assumption) | (refine Row.box (by assumption) (by assumption) (fun k hk h => notBk hk h (Nat.le_refl _)) ?_))), (by repeat (first | assumption | refine Row.e0 ?_ (by assumption) | (refine Row.box (by assumption) (by assumption) (fun k hk h => notBk hk h (Nat.le_refl _)) ?_)))⟩, by omega⟩
      repeat (any_goals (
        conv => whnf
        first
        | ((with_reducible refine callS (g := 21) ?_ ?_); kernel_rfl; refine ⟨_, DrawDamageText_c _ _ _ bs _ (by repeat (first | assumption | refine Row.e0 ?_ (by assumption) | (refine Row.box (by assumption) (by assumption) (fun k hk h => notBk hk h (Nat.le_refl _)) ?_))) hn hsm hby, ?_⟩; intro r5 w5 e5 h5; have z6 := cutLe e5; obtain ⟨y, rfl, hfy⟩ := h5)
        | ((with_reducible refine callX (g := 22) ?_ ?_); kernel_rfl; intro hX; refine ⟨_, DamageText_c y _ (TabIs.e0 ht hX), ?_⟩; intro w4 e4; have z4 := cutLe e4; clear hX)
        | ((with_reducible refine callF (g := 23) ?_ ?_); kernel_rfl; refine ⟨_, DamageTextS_c y _, ?_⟩; intro w4 e4; have z4 := cutLe e4)
        | ((with_reducible refine callF (g := 17) ?_ ?_); kernel_rfl; refine ⟨_, GradeOf_c y _, ?_⟩; intro w4 e4; have z4 := cutLe e4)
        | ((with_reducible refine callF (g := 24) ?_ ?_); kernel_rfl; refine ⟨_, GradeOfS_c y _, ?_⟩; intro w4 e4; have z4 := cutLe e4)
        | ((with_reducible refine BIF.s (fun h => absurd h ?_) (fun _ => ?_)); focus (first | (simp; done) | (simp; omega)))
        | ((with_reducible refine BIF.s (fun _ => ?_) (fun h => absurd h ?_)); rotate_left; focus (first | (simp; done) | (simp; omega)))
        | ((with_reducible refine BIF.s ?_ ?_) <;> intro hok)
        | ((with_reducible refine BIF.dec ?_ ?_) <;> intro _)
        | ((with_reducible refine BIF.s ?_ ?_) <;> intro _)
        | (with_reducible refine NEXTK.normal ?_)
        | (with_reducible refine NEXTK.ret ?_)
        | (with_reducible refine NEXTK.exit ?_)
        | (with_reducible refine SEQ.plain ?_)
        | (with_reducible refine hK _ _ ?_)
        | ((with_reducible refine RUNL.agg (fun _ => ?_) ?_); (focus kernel_rfl))
        | (with_reducible refine RUNL.run ?_)
        | ((with_reducible refine AR.ok ?_ ?_); exact ⟨by first | omega | (dsimp only; omega), by first | omega | (dsimp only; omega)⟩)
        | (with_reducible refine AR.wr ?_)
        | ((with_reducible intro w3 e3); try have z3 := cutLe e3)
        | ((with_reducible intro h3); have h4 := Nat.le_of_lt h3; clear h4)))
      all_goals
        intro hx'
        exact ⟨by simp [resV], hx'⟩

theorem cellsByte {H : Type} {en : TypeId × Value → H} {w : World} {base : Nat} {spare : Nat → Bool} {held : Bool} (n : Nat) (cs : List Value) (x : DataW H × List MemPlace) (hl : cs.length = 1)
    (h : DataW.trod en Tryd.prog w base spare held n 5 cs = some x) : ∃ y : Int, cs = encB y ∧ (0 ≤ y ∧ y ≤ 255) := by
  match cs, hl with
  | [c0], _ =>
    obtain ⟨z0, q0, -, g0⟩ := DataW.trod_int Tryd.underlying5 h
    simp at q0
    subst q0
    simp only [Lit.wf, Bool.and_eq_true, decide_eq_true_eq] at g0
    exact ⟨z0, rfl, g0.1, g0.2⟩

theorem FnWorks_door (os : Os) (args : Array Value) : laidMetH Tryd.prog Rows.fnWorksRow.laid ((World.doorLaid Tryd.prog 400 os).forCall (fun _ _ => 0) ⟨#[], args, []⟩).memory :=
  laidMetH_of_parts3 (fuel := 8) (laidMet_of_run' 8 (by kernel_rfl) (by kernel_rfl)) (by kernel_rfl) (by kernel_rfl)
theorem FnWorks_tab {W : World} (h : laidMetH Tryd.prog Rows.fnWorksRow.laid W) : Tab W := by
  rw [MakeChecks.laidMetH_plain _ _ _ (by kernel_rfl)] at h
  obtain ⟨ps, ⟨g0, t0, cs0, f0, p0, q0, hg0, ht0, hv0, hd0, ⟨g1, t1, cs1, f1, p1, q1, hg1, ht1, hv1, hd1, ⟨g2, t2, cs2, f2, p2, q2, hg2, ht2, hv2, hd2, _, _⟩, _⟩, _⟩, _, _⟩ := h
  obtain rfl := Option.some.inj ((show Tryd.prog.globalNamed "internal/strconv.uint64pow10" = some 0 by kernel_rfl).symm.trans hg2)
  obtain rfl := Option.some.inj ((show (Tryd.prog.globals[0]?).map (·.type) = some 91 by kernel_rfl).symm.trans ht2)
  unfold Tab Lib.TabIs
  rw [hv2]
  obtain ⟨cs⟩ := cs2
  have e := Lib.cells_of_tab (n := 20) (k := .u64) (zs := Lib.pow10Tab) Tryd.underlying91 Tryd.underlying52 (by kernel_rfl) (by kernel_rfl) hd2
  exact congrArg some (congrArg Array.mk e)
set_option maxRecDepth 100000 in
theorem FnWorks_lifted (os : Os) (started : os.Started) (H : Type) (enc : TypeId × Value → H) :
    ReturnsInHanded {} Tryd.checked os 3 .any (fun w args => (Rows.fnWorksSpec.pre enc Tryd.prog Tryd.f3 [] false w args ∧ laidMetH Tryd.prog Rows.fnWorksRow.laid w) ∧ sizedMet enc Tryd.prog Tryd.f3 (OpenSpec.ofChange Rows.fnWorksSpec) false w args)
      (Rows.fnWorksSpec.post enc Tryd.prog Tryd.f3 false true false false) := by
  refine returnsInHanded_of_change_and (C := Tryd.checked) (X := fun w _ => laidMetH Tryd.prog Rows.fnWorksRow.laid w) (fun _ _ _ hh h => h.of_heap hh) own started (by kernel_rfl) Tryd.func3
    (ChangeSpec.witness_shaped (enc := enc) (C := Tryd.checked) (os := os) (X := fun w _ => laidMetH Tryd.prog Rows.fnWorksRow.laid w) false (World.doorLaid Tryd.prog 400 os) #[.slice none 0 0] 8 rfl (World.shaped_of_RefB (by kernel_rfl) (by kernel_rfl)) (by kernel_rfl) (by kernel_rfl) (by kernel_rfl) (FnWorks_door os _)) ?_
  intro W base args ds gs before hval0 hW _ _ hL _
  have hval : ∀ (j : Nat) t v, Tryd.f3.params[j]? = some t → args[j]? = some v → Value.okWide Tryd.prog W .any base t v := hval0
  have hW' := hW
  obtain ⟨p, q, hA0, hV, rfl, hfz, hnd⟩ := hW
  have hA : DataW.TrodAll enc Tryd.prog W 0 (fun _ => true) true Tryd.f3.params.toList args.toList ds p := hA0
  rw [Tryd.params3] at hA hval
  obtain ⟨v0, vs0, d0, ds0, p0, q0, hargs, rfl, rfl, h0, r0⟩ := trodAll_cons hA
  obtain ⟨rfl, rfl, rfl⟩ := trodAll_nil r0
  obtain rfl : args = #[v0] := by cases args; simp_all
  obtain ⟨rfl, rfl⟩ := trodVars_none hV
  obtain ⟨a0, n0, c0, rfl⟩ := okWide_slice Tryd.underlying22 (hval 0 22 v0 rfl rfl)
  have k0 := h0
  have lt0 : ∀ x ∈ p0, x.block < W.heap.size := by obtain ⟨m, hm⟩ := k0; exact DataW.trod_lt m _ _ _ hm
  obtain ⟨xs0, w0, l0, b0, g0⟩ := open_rows Tryd.underlying22 (by kernel_rfl) cellsByte h0
  clear hA0 hval0
  refine (FnWorks_w W (FnWorks_tab hL) a0 n0 c0 xs0 w0 l0 b0 g0).mono fun e W' ⟨he, x⟩ => ?_
  subst he
  have bel := x.toBelow
  exact ⟨_, rfl, _, _, _, [], _, [], hW', trodAll_mk1 (shut_bool Tryd.underlying4 _), (trodAll_cons_mk (Below.trod laidOut (by kernel_rfl) (of_decide_eq_true (by kernel_rfl)) k0 bel lt0) trodAll_mk0), rfl, bel.frame _, fun h => by cases h⟩
theorem FnWorks_row : Rows.fnWorksRow.holds Tryd.pinned (OpenSpec.ofChange Rows.fnWorksSpec) :=
  OpenClaim.holds_of_wide 3 Tryd.f3 rfl rfl rfl rfl rfl rfl rfl ⟨rfl, rfl, rfl, rfl, rfl⟩ rfl rfl rfl rfl rfl (by kernel_rfl) Tryd.func3 (by kernel_rfl)
    (of_decide_eq_true (by kernel_rfl)) (by unfold Func.isWrapper; first | (rw [if_pos (by decide +kernel)]; kernel_rfl) | (rw [if_neg (by decide +kernel)]; exact ⟨rfl, rfl⟩))
    (fun os started H enc _ => FnWorks_lifted os started H enc)
theorem FnWorks_holds : Rows.FnWorksCardSaid :=
  Claim7.holds_tied_plain_at .later [] [.data, .data, .data] true (true, "c6df1b9ef7c057053673b630403bb6675d57af99e55194c7729afde8f2485fd1") false
    FnWorks_row (fun _ h => by cases h) (by kernel_rfl) (fun _ h => by cases h) fnWorks_row_tie rfl ⟨rfl, rfl⟩ (by kernel_rfl) rfl
    (fun f fn hf hfn => by
      obtain rfl : f = 3 := Option.some.inj ((show Tryd.prog.funcNamed Rows.fnWorksRow.func = some 3 by kernel_rfl).symm.trans hf) |>.symm
      obtain rfl : fn = Tryd.f3 := (Option.some.inj (Tryd.func3.symm.trans hfn)).symm
      exact ⟨by kernel_rfl, fun j t ht => by
        rw [Tryd.params3] at ht
        have hm : t ∈ [22] := by simpa using Array.mem_of_getElem? ht
        have hall : ([22].all fun u => !Tryd.prog.wantsStandIn u) = true := by kernel_rfl
        exact (show Tryd.prog.wantsStandIn t = false by simpa using List.all_eq_true.1 hall t hm)⟩)
    (by kernel_rfl)
end Go.Proofs.YtgopcppegjhmiaaDoor

/- What the helpers of the law tell. -/
import Derived.Test.YtpddilkonkkppaaGreatDoorRows
import Derived.Test.YtpddilkonkkppaaGreatDoorTwo2
import Derived.Test.YtpddilkonkkppaaGreatDoorEqa
namespace Go.Proofs.YtpddilkonkkppaaGreatDoor
open Go Go.X Go.Proofs Go.ChangeShapes Go.WideShapes Go.ChangeAt Go.RowKit
open Go.ChangeMaps (open_string shut_string)
set_option maxHeartbeats 1000000
set_option maxRecDepth 20000
set_option linter.unusedVariables false
set_option linter.unusedSimpArgs false
theorem vBig_c (a : Option Addr) (n c : Nat) (w : World) : Calls Tryz.prog 15 #[.slice a n c] w fun e w' => e = .returned (.bool (decide ((65536 : Int) < n))) ∧ E0 w w' := by
  refine enterK Non 6 Tryz.func15 rfl rfl rfl fun K hK => ?_
  repeat (any_goals (
    conv => whnf
    first
    | ((with_reducible refine BIF.dec ?_ ?_) <;> intro _)
    | ((with_reducible refine BIF.s ?_ ?_) <;> intro _)
    | (with_reducible refine NEXTK.normal ?_)
    | (with_reducible refine NEXTK.ret ?_)
    | (with_reducible refine NEXTK.exit ?_)
    | (with_reducible refine SEQ.plain ?_)
    | (with_reducible refine hK _ _ ?_)
    | ((with_reducible refine RUNL.agg (fun _ => ?_) ?_); (focus kernel_rfl))
    | (with_reducible refine RUNL.run ?_)
    | ((with_reducible refine AR.ok ?_ ?_); exact ⟨by first | omega | (dsimp only; omega), by first | omega | (dsimp only; omega)⟩)
    | (with_reducible refine AR.wr ?_)
    | ((with_reducible intro w3 e3); try have z3 := cutLe e3)
    | ((with_reducible intro h3); have h4 := Nat.le_of_lt h3; clear h4)))
  all_goals
    intro hx
    exact ⟨rfl, hx⟩
theorem vInts_c (a b : Option Addr) (n c m d : Nat) (xs ys : List Int) (w : World) (hr : Row w a 1 (xs.map encI)) (hs : Row w b 1 (ys.map encI)) (hn : xs.length = n) (hm : ys.length = m) (hl : n ≤ 4611686018427387904) (hl2 : m ≤ 4611686018427387904) :
    Calls Tryz.prog 73 #[.slice a n c, .slice b m d] w fun e w' => e = .returned (.bool (decide (xs = ys))) ∧ E0 w w' := by
  refine enterK Non 26 Tryz.func73 rfl rfl rfl fun K hK => ?_
  repeat (any_goals (
    conv => whnf
    first
    | ((with_reducible refine BIF.bne ?_ ?_) <;> intro _)
    | ((with_reducible refine BIF.dec ?_ ?_) <;> intro _)
    | ((with_reducible refine BIF.s ?_ ?_) <;> intro _)
    | (with_reducible refine NEXTK.normal ?_)
    | (with_reducible refine NEXTK.ret ?_)
    | (with_reducible refine NEXTK.exit ?_)
    | (with_reducible refine SEQ.plain ?_)
    | (with_reducible refine hK _ _ ?_)
    | ((with_reducible refine RUNL.agg (fun _ => ?_) ?_); (focus kernel_rfl))
    | (with_reducible refine RUNL.run ?_)
    | ((with_reducible refine AR.ok ?_ ?_); exact ⟨by first | omega | (dsimp only; omega), by first | omega | (dsimp only; omega)⟩)
    | (with_reducible refine AR.wr ?_)
    | ((with_reducible intro w3 e3); try have z3 := cutLe e3)
    | ((with_reducible intro h3); have h4 := Nat.le_of_lt h3; clear h4)))
  · rename_i hne
    intro hx
    refine ⟨?_, hx⟩
    rw [decide_eq_false (fun e => hne (by rw [← hn, ← hm, e]))]; rfl
  · have hnm : n = m := by omega
    refine LOOP.mk Nat (fun k => [(5, .v (.int .i64 k))]) (fun k wr => k ≤ n ∧ xs.take k = ys.take k) (fun k => n - k) 0 rfl ⟨rfl, trivial⟩ ⟨Nat.zero_le _, rfl⟩ ?_
    rintro k wr - ⟨hk, ho⟩
    conv => whnf
    repeat (first | ((with_reducible refine NEXTK.normal ?_); conv => whnf) | ((with_reducible refine NEXTK.exit ?_); conv => whnf) | ((with_reducible refine NEXTK.ret ?_); conv => whnf) | ((with_reducible refine SEQ.plain ?_); conv => whnf) | ((with_reducible refine AR.ok ?_ ?_); exact ⟨by omega, by omega⟩; conv => whnf))
    refine BIF.dec (fun hlt => ?_) (fun hlt => ?_)
    · have hlt1 : k < xs.length := by omega
      have hlt2 : k < ys.length := by omega
      have is1 := hr.isSome (by simp; omega)
      have is2 := hs.isSome (by simp; omega)
      conv => whnf
      repeat (first | ((with_reducible refine NEXTK.normal ?_); conv => whnf) | ((with_reducible refine NEXTK.exit ?_); conv => whnf) | ((with_reducible refine NEXTK.ret ?_); conv => whnf) | ((with_reducible refine SEQ.plain ?_); conv => whnf) | ((with_reducible refine AR.ok ?_ ?_); exact ⟨by omega, by omega⟩; conv => whnf))
      refine DRAW.quiet (by kernel_rfl) (by kernel_rfl) ?_
      repeat (any_goals (
        conv => whnf
        first
        | ((with_reducible refine OBL.mk ?_ (fun _ => ?_)); exact ⟨by omega, by omega, by first | exact is1 | exact is2⟩)
        | ((with_reducible refine ELD.at (enc := encI) (xs := xs) k hr ?_ ?_ ?_ (fun x hx => ?_)); exact mAddr_Non _; rfl; exact hlt1)
        | ((with_reducible refine ELD.at (enc := encI) (xs := ys) k hs ?_ ?_ ?_ (fun y hy => ?_)); exact mAddr_Non _; rfl; exact hlt2)
        | ((with_reducible refine BIF.bne ?_ ?_) <;> intro _)
        | ((with_reducible refine BIF.dec ?_ ?_) <;> intro _)
        | ((with_reducible refine BIF.s ?_ ?_) <;> intro _)
        | (with_reducible refine NEXTK.normal ?_)
        | (with_reducible refine NEXTK.ret ?_)
        | (with_reducible refine NEXTK.exit ?_)
        | (with_reducible refine SEQ.plain ?_)
        | (with_reducible refine hK _ _ ?_)
        | ((with_reducible refine RUNL.agg (fun _ => ?_) ?_); (focus kernel_rfl))
        | (with_reducible refine RUNL.run ?_)
        | ((with_reducible refine AR.ok ?_ ?_); exact ⟨by first | omega | (dsimp only; omega), by first | omega | (dsimp only; omega)⟩)
        | (with_reducible refine AR.wr ?_)
        | ((with_reducible intro w3 e3); try have z3 := cutLe e3)
        | ((with_reducible intro h3); have h4 := Nat.le_of_lt h3; clear h4)))
      all_goals first
        | (intro hw
           refine ⟨?_, hw⟩
           rw [decide_eq_false (fun e => by subst e; simp_all)]; rfl)
        | (refine ⟨k + 1, rfl, ⟨rfl, trivial⟩, rfl, rfl, ⟨by omega, ?_⟩, by omega⟩
           rw [List.take_add_one, List.take_add_one, ho]
           simp_all)
    · repeat (any_goals (
        conv => whnf
        first
        | ((with_reducible refine BIF.dec ?_ ?_) <;> intro _)
        | ((with_reducible refine BIF.s ?_ ?_) <;> intro _)
        | (with_reducible refine NEXTK.normal ?_)
        | (with_reducible refine NEXTK.ret ?_)
        | (with_reducible refine NEXTK.exit ?_)
        | (with_reducible refine SEQ.plain ?_)
        | (with_reducible refine hK _ _ ?_)
        | ((with_reducible refine RUNL.agg (fun _ => ?_) ?_); (focus kernel_rfl))
        | (with_reducible refine RUNL.run ?_)
        | ((with_reducible refine AR.ok ?_ ?_); exact ⟨by first | omega | (dsimp only; omega), by first | omega | (dsimp only; omega)⟩)
        | (with_reducible refine AR.wr ?_)
        | ((with_reducible intro w3 e3); try have z3 := cutLe e3)
        | ((with_reducible intro h3); have h4 := Nat.le_of_lt h3; clear h4)))
      intro hx
      refine ⟨?_, hx⟩
      have e1 : k = xs.length := by omega
      have e2 : k = ys.length := by omega
      rw [List.take_of_length_le (by omega), List.take_of_length_le (by omega)] at ho
      rw [decide_eq_true ho]; rfl
theorem eqaCla (x y : Cla) : ∀ w, (Op.equalIn 10000 63 (.agg (encCla x).toArray) (.agg (encCla y).toArray)).run Tryz.prog w = .ok (decide (x = y)) w := by
  intro w
  rw [eqStruct_run (by kernel_rfl) (by kernel_rfl) (by kernel_rfl) (by kernel_rfl : _ = (x.fKind == y.fKind && (x.fOne.toList == y.fOne.toList && (x.fTwo.toList == y.fTwo.toList && true)))) w]
  congr 1
  cases x; cases y
  rw [Bool.eq_iff_iff]
  simp [str_beq, ByteArray.toList_eq, ByteArray.ext_iff]
theorem vClashes_c (a b : Option Addr) (n c m d : Nat) (xs ys : List Cla) (w : World) (hr : Row w a 3 (xs.map encCla)) (hs : Row w b 3 (ys.map encCla)) (hn : xs.length = n) (hm : ys.length = m) (hl : n ≤ 4611686018427387904) (hl2 : m ≤ 4611686018427387904) :
    Calls Tryz.prog 18 #[.slice a n c, .slice b m d] w fun e w' => e = .returned (.bool (decide (xs = ys))) ∧ E0 w w' := by
  refine enterK Non 26 Tryz.func18 rfl rfl rfl fun K hK => ?_
  repeat (any_goals (
    conv => whnf
    first
    | ((with_reducible refine BIF.bne ?_ ?_) <;> intro _)
    | ((with_reducible refine BIF.dec ?_ ?_) <;> intro _)
    | ((with_reducible refine BIF.s ?_ ?_) <;> intro _)
    | (with_reducible refine NEXTK.normal ?_)
    | (with_reducible refine NEXTK.ret ?_)
    | (with_reducible refine NEXTK.exit ?_)
    | (with_reducible refine SEQ.plain ?_)
    | (with_reducible refine hK _ _ ?_)
    | ((with_reducible refine RUNL.agg (fun _ => ?_) ?_); (focus kernel_rfl))
    | (with_reducible refine RUNL.run ?_)
    | ((with_reducible refine AR.ok ?_ ?_); exact ⟨by first | omega | (dsimp only; omega), by first | omega | (dsimp only; omega)⟩)
    | (with_reducible refine AR.wr ?_)
    | ((with_reducible intro w3 e3); try have z3 := cutLe e3)
    | ((with_reducible intro h3); have h4 := Nat.le_of_lt h3; clear h4)))
  · rename_i hne
    intro hx
    refine ⟨?_, hx⟩
    rw [decide_eq_false (fun e => hne (by rw [← hn, ← hm, e]))]; rfl
  · have hnm : n = m := by omega
    refine LOOP.mk Nat (fun k => [(5, .v (.int .i64 k))]) (fun k wr => k ≤ n ∧ xs.take k = ys.take k) (fun k => n - k) 0 rfl ⟨rfl, trivial⟩ ⟨Nat.zero_le _, rfl⟩ ?_
    rintro k wr - ⟨hk, ho⟩
    conv => whnf
    repeat (first | ((with_reducible refine NEXTK.normal ?_); conv => whnf) | ((with_reducible refine NEXTK.exit ?_); conv => whnf) | ((with_reducible refine NEXTK.ret ?_); conv => whnf) | ((with_reducible refine SEQ.plain ?_); conv => whnf) | ((with_reducible refine AR.ok ?_ ?_); exact ⟨by omega, by omega⟩; conv => whnf))
    refine BIF.dec (fun hlt => ?_) (fun hlt => ?_)
    · have hlt1 : k < xs.length := by omega
      have hlt2 : k < ys.length := by omega
      have is1 := hr.isSome (by simp; omega)
      have is2 := hs.isSome (by simp; omega)
      conv => whnf
      repeat (first | ((with_reducible refine NEXTK.normal ?_); conv => whnf) | ((with_reducible refine NEXTK.exit ?_); conv => whnf) | ((with_reducible refine NEXTK.ret ?_); conv => whnf) | ((with_reducible refine SEQ.plain ?_); conv => whnf) | ((with_reducible refine AR.ok ?_ ?_); exact ⟨by omega, by omega⟩; conv => whnf))
      refine DRAW.quiet (by kernel_rfl) (by kernel_rfl) ?_
      repeat (any_goals (
        conv => whnf
        first
        | ((with_reducible refine OBL.mk ?_ (fun _ => ?_)); exact ⟨by omega, by omega, by first | exact is1 | exact is2⟩)
        | ((with_reducible refine ELD.at (enc := encCla) (xs := xs) k hr ?_ ?_ ?_ (fun x hx => ?_)); exact mAddr_Non _; rfl; exact hlt1)
        | ((with_reducible refine ELD.at (enc := encCla) (xs := ys) k hs ?_ ?_ ?_ (fun y hy => ?_)); exact mAddr_Non _; rfl; exact hlt2)
        | ((with_reducible refine EQA.neq (decide (x = y)) ?_ ?_ ?_); (focus kernel_rfl); (focus (exact eqaCla x y)))
        | ((with_reducible refine BIF.s ?_ ?_) <;> intro hxy)
        | ((with_reducible refine BIF.dec ?_ ?_) <;> intro _)
        | ((with_reducible refine BIF.s ?_ ?_) <;> intro _)
        | (with_reducible refine NEXTK.normal ?_)
        | (with_reducible refine NEXTK.ret ?_)
        | (with_reducible refine NEXTK.exit ?_)
        | (with_reducible refine SEQ.plain ?_)
        | (with_reducible refine hK _ _ ?_)
        | ((with_reducible refine RUNL.agg (fun _ => ?_) ?_); (focus kernel_rfl))
        | (with_reducible refine RUNL.run ?_)
        | ((with_reducible refine AR.ok ?_ ?_); exact ⟨by first | omega | (dsimp only; omega), by first | omega | (dsimp only; omega)⟩)
        | (with_reducible refine AR.wr ?_)
        | ((with_reducible intro w3 e3); try have z3 := cutLe e3)
        | ((with_reducible intro h3); have h4 := Nat.le_of_lt h3; clear h4)))
      all_goals first
        | (intro hw
           refine ⟨?_, hw⟩
           rw [decide_eq_false (fun e => by subst e; simp_all)]; rfl)
        | (refine ⟨k + 1, rfl, ⟨rfl, trivial⟩, rfl, rfl, ⟨by omega, ?_⟩, by omega⟩
           rw [List.take_add_one, List.take_add_one, ho]
           simp_all)
    · repeat (any_goals (
        conv => whnf
        first
        | ((with_reducible refine BIF.dec ?_ ?_) <;> intro _)
        | ((with_reducible refine BIF.s ?_ ?_) <;> intro _)
        | (with_reducible refine NEXTK.normal ?_)
        | (with_reducible refine NEXTK.ret ?_)
        | (with_reducible refine NEXTK.exit ?_)
        | (with_reducible refine SEQ.plain ?_)
        | (with_reducible refine hK _ _ ?_)
        | ((with_reducible refine RUNL.agg (fun _ => ?_) ?_); (focus kernel_rfl))
        | (with_reducible refine RUNL.run ?_)
        | ((with_reducible refine AR.ok ?_ ?_); exact ⟨by first | omega | (dsimp only; omega), by first | omega | (dsimp only; omega)⟩)
        | (with_reducible refine AR.wr ?_)
        | ((with_reducible intro w3 e3); try have z3 := cutLe e3)
        | ((with_reducible intro h3); have h4 := Nat.le_of_lt h3; clear h4)))
      intro hx
      refine ⟨?_, hx⟩
      have e1 : k = xs.length := by omega
      have e2 : k = ys.length := by omega
      rw [List.take_of_length_le (by omega), List.take_of_length_le (by omega)] at ho
      rw [decide_eq_true ho]; rfl
theorem vEntry_c (t u : Tri) (w : World) (hr : Row w t.2.1 1 (t.1.fSeen.map encI)) (hs : Row w u.2.1 1 (u.1.fSeen.map encI)) (hm : t.1.fSeen.length ≤ 1048577) (hm2 : u.1.fSeen.length ≤ 1048577) :
    Calls Tryz.prog 44 #[.agg (encT t).toArray, .agg (encT u).toArray] w fun e w' => e = .returned (.bool (decide (t.1 = u.1))) ∧ E0 w w' := by
  refine enterK Non 45 Tryz.func44 rfl rfl rfl fun K hK => ?_
  repeat (any_goals (
    conv => whnf
    first
    | ((with_reducible refine BIF.seq ?_ ?_) <;> intro _)
    | ((with_reducible refine BIF.beq ?_ ?_) <;> intro _)
    | ((with_reducible refine callF (g := 73) ?_ ?_); kernel_rfl; refine ⟨_, vInts_c _ _ _ _ _ _ t.1.fSeen u.1.fSeen _ (by repeat (first | assumption | refine Row.e0 ?_ (by assumption))) (by repeat (first | assumption | refine Row.e0 ?_ (by assumption))) rfl rfl (by omega) (by omega), ?_⟩; intro w4 e4; have z4 := cutLe e4)
    | ((with_reducible refine BIF.dec ?_ ?_) <;> intro _)
    | ((with_reducible refine BIF.s ?_ ?_) <;> intro _)
    | (with_reducible refine NEXTK.normal ?_)
    | (with_reducible refine NEXTK.ret ?_)
    | (with_reducible refine NEXTK.exit ?_)
    | (with_reducible refine SEQ.plain ?_)
    | (with_reducible refine hK _ _ ?_)
    | ((with_reducible refine RUNL.agg (fun _ => ?_) ?_); (focus kernel_rfl))
    | (with_reducible refine RUNL.run ?_)
    | ((with_reducible refine AR.ok ?_ ?_); exact ⟨by first | omega | (dsimp only; omega), by first | omega | (dsimp only; omega)⟩)
    | (with_reducible refine AR.wr ?_)
    | ((with_reducible intro w3 e3); try have z3 := cutLe e3)
    | ((with_reducible intro h3); have h4 := Nat.le_of_lt h3; clear h4)))
  all_goals
    intro hx
    refine ⟨?_, hx⟩
    obtain ⟨x, a, c⟩ := t
    obtain ⟨y, b, d⟩ := u
    cases x; cases y; simp_all [resV]
theorem vEntries_c (a b : Option Addr) (n c m d : Nat) (ts us : List Tri) (w : World) (hr : Row w a 6 (ts.map encT)) (ht : SeenAt w ts) (hs : Row w b 6 (us.map encT)) (hu : SeenAt w us) (hn : ts.length = n) (hm : us.length = m) (hl : n ≤ 4611686018427387904) (hl2 : m ≤ 4611686018427387904)
    (hz : ∀ t ∈ ts, t.1.fSeen.length ≤ 1048577) (hz2 : ∀ t ∈ us, t.1.fSeen.length ≤ 1048577) :
    Calls Tryz.prog 17 #[.slice a n c, .slice b m d] w fun e w' => e = .returned (.bool (decide (ts.map (·.1) = us.map (·.1)))) ∧ E0 w w' := by
  refine enterK Non 27 Tryz.func17 rfl rfl rfl fun K hK => ?_
  conv => whnf
  repeat (first | ((with_reducible refine NEXTK.normal ?_); conv => whnf) | ((with_reducible refine NEXTK.exit ?_); conv => whnf) | ((with_reducible refine NEXTK.ret ?_); conv => whnf) | ((with_reducible refine SEQ.plain ?_); conv => whnf) | ((with_reducible refine AR.ok ?_ ?_); exact ⟨by omega, by omega⟩; conv => whnf))
  refine BIF.bne (fun hne => ?_) (fun he => ?_)
  · repeat (any_goals (
      conv => whnf
      first
      | ((with_reducible refine BIF.dec ?_ ?_) <;> intro _)
      | ((with_reducible refine BIF.s ?_ ?_) <;> intro _)
      | (with_reducible refine NEXTK.normal ?_)
      | (with_reducible refine NEXTK.ret ?_)
      | (with_reducible refine NEXTK.exit ?_)
      | (with_reducible refine SEQ.plain ?_)
      | (with_reducible refine hK _ _ ?_)
      | ((with_reducible refine RUNL.agg (fun _ => ?_) ?_); (focus kernel_rfl))
      | (with_reducible refine RUNL.run ?_)
      | ((with_reducible refine AR.ok ?_ ?_); exact ⟨by first | omega | (dsimp only; omega), by first | omega | (dsimp only; omega)⟩)
      | (with_reducible refine AR.wr ?_)
      | ((with_reducible intro w3 e3); try have z3 := cutLe e3)
      | ((with_reducible intro h3); have h4 := Nat.le_of_lt h3; clear h4)))
    intro hx
    refine ⟨?_, hx⟩
    rw [decide_eq_false (fun e => hne (by have := congrArg List.length e; rw [List.length_map, List.length_map] at this; omega))]; rfl
  · have hnm : n = m := by omega
    conv => whnf
    repeat (first | ((with_reducible refine NEXTK.normal ?_); conv => whnf) | ((with_reducible refine NEXTK.exit ?_); conv => whnf) | ((with_reducible refine NEXTK.ret ?_); conv => whnf) | ((with_reducible refine SEQ.plain ?_); conv => whnf) | ((with_reducible refine AR.ok ?_ ?_); exact ⟨by omega, by omega⟩; conv => whnf))
    refine LOOP.mk Nat (fun k => [(5, .v (.int .i64 k))]) (fun k wr => k ≤ n ∧ (ts.take k).map (·.1) = (us.take k).map (·.1)) (fun k => n - k) 0 rfl ⟨rfl, trivial⟩ ⟨Nat.zero_le _, rfl⟩ ?_
    rintro k wr hX0 ⟨hk, ho⟩
    conv => whnf
    repeat (first | ((with_reducible refine NEXTK.normal ?_); conv => whnf) | ((with_reducible refine NEXTK.exit ?_); conv => whnf) | ((with_reducible refine NEXTK.ret ?_); conv => whnf) | ((with_reducible refine SEQ.plain ?_); conv => whnf) | ((with_reducible refine AR.ok ?_ ?_); exact ⟨by omega, by omega⟩; conv => whnf))
    refine BIF.dec (fun hlt => ?_) (fun hlt => ?_)
    · have hlt1 : k < ts.length := by omega
      have hlt2 : k < us.length := by omega
      have is1 := hr.isSome (by simp; omega)
      have is2 := hs.isSome (by simp; omega)
      conv => whnf
      repeat (first | ((with_reducible refine NEXTK.normal ?_); conv => whnf) | ((with_reducible refine NEXTK.exit ?_); conv => whnf) | ((with_reducible refine NEXTK.ret ?_); conv => whnf) | ((with_reducible refine SEQ.plain ?_); conv => whnf) | ((with_reducible refine AR.ok ?_ ?_); exact ⟨by omega, by omega⟩; conv => whnf))
      refine DRAW.quiet (by kernel_rfl) (by kernel_rfl) ?_
      repeat (any_goals (
        conv => whnf
        first
        | ((with_reducible refine OBL.mk ?_ (fun _ => ?_)); exact ⟨by omega, by omega, by first | exact is1 | exact is2⟩)
        | ((with_reducible refine ELD.at (enc := encT) (xs := ts) k hr ?_ ?_ ?_ (fun t htk => ?_)); exact mAddr_Non _; rfl; exact hlt1)
        | ((with_reducible refine ELD.at (enc := encT) (xs := us) k hs ?_ ?_ ?_ (fun u huk => ?_)); exact mAddr_Non _; rfl; exact hlt2)
        | ((with_reducible refine callQ (g := 44) ?_ ?_); kernel_rfl; refine ⟨_, fun w' e' => vEntry_c t u _ (((ht t (List.mem_of_getElem? htk)).ext hX0 (mAddr_Non _)).e0 e') (((hu u (List.mem_of_getElem? huk)).ext hX0 (mAddr_Non _)).e0 e') (hz t (List.mem_of_getElem? htk)) (hz2 u (List.mem_of_getElem? huk)), ?_⟩)
        | ((with_reducible refine BIF.dec ?_ ?_) <;> intro _)
        | ((with_reducible refine BIF.s ?_ ?_) <;> intro _)
        | (with_reducible refine NEXTK.normal ?_)
        | (with_reducible refine NEXTK.ret ?_)
        | (with_reducible refine NEXTK.exit ?_)
        | (with_reducible refine SEQ.plain ?_)
        | (with_reducible refine hK _ _ ?_)
        | ((with_reducible refine RUNL.agg (fun _ => ?_) ?_); (focus kernel_rfl))
        | (with_reducible refine RUNL.run ?_)
        | ((with_reducible refine AR.ok ?_ ?_); exact ⟨by first | omega | (dsimp only; omega), by first | omega | (dsimp only; omega)⟩)
        | (with_reducible refine AR.wr ?_)
        | ((with_reducible intro w3 e3); try have z3 := cutLe e3)
        | ((with_reducible intro h3); have h4 := Nat.le_of_lt h3; clear h4)))
      all_goals first
        | (intro hw
           refine ⟨?_, hw⟩
           rw [decide_eq_false (fun e => by
             have h1 : (ts.map (·.1))[k]? = some t.1 := by rw [List.getElem?_map, htk]; rfl
             have h2 : (us.map (·.1))[k]? = some u.1 := by rw [List.getElem?_map, huk]; rfl
             rw [e, h2] at h1
             simp_all)]; rfl)
        | (refine ⟨k + 1, rfl, ⟨rfl, trivial⟩, rfl, rfl, ⟨by omega, ?_⟩, by omega⟩
           rw [List.take_add_one, List.take_add_one, List.map_append, List.map_append, ho, htk, huk]
           simp_all)
    · conv => whnf
      repeat (first | ((with_reducible refine NEXTK.normal ?_); conv => whnf) | ((with_reducible refine NEXTK.exit ?_); conv => whnf) | ((with_reducible refine NEXTK.ret ?_); conv => whnf) | ((with_reducible refine SEQ.plain ?_); conv => whnf) | ((with_reducible refine AR.ok ?_ ?_); exact ⟨by omega, by omega⟩; conv => whnf))
      refine hK _ _ ?_
      conv => whnf
      intro hx
      refine ⟨?_, hx⟩
      have e1 : k = ts.length := by omega
      have e2 : k = us.length := by omega
      rw [List.take_of_length_le (by omega), List.take_of_length_le (by omega)] at ho
      rw [decide_eq_true ho]; rfl

end Go.Proofs.YtpddilkonkkppaaGreatDoor

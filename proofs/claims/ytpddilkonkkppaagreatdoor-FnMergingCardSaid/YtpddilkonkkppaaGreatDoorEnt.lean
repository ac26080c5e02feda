/- Entries, and the conversions of their copies. -/
import Derived.Test.YtpddilkonkkppaaGreatDoorRows
import Derived.Test.YtpddilkonkkppaaGreatDoorStrs
import Derived.Test.YtpddilkonkkppaaGreatDoorStrs
namespace Go.Proofs.YtpddilkonkkppaaGreatDoor
open Go Go.X Go.Proofs Go.ChangeShapes Go.WideShapes Go.ChangeAt Go.RowKit
open Go.ChangeMaps (open_string shut_string)
set_option maxHeartbeats 1000000
set_option maxRecDepth 20000
set_option linter.unusedVariables false
set_option linter.unusedSimpArgs false
structure Ent where
  fId : Int
  fTitle : ByteArray
  fPlace : ByteArray
  fYear : Int
  fCount : Int
  fSeen : List Int
  deriving DecidableEq
/-- an entry, and where its list of numbers lies: the address, the capacity. -/
abbrev Tri := Ent × Option Addr × Nat
abbrev Tri.sl (t : Tri) : Value := .slice t.2.1 t.1.fSeen.length t.2.2
def encT (t : Tri) : List Value := [.int .i64 t.1.fId, .string t.1.fTitle, .string t.1.fPlace, .int .i64 t.1.fYear, .int .i64 t.1.fCount, .slice t.2.1 t.1.fSeen.length t.2.2]
def zeroT : List Value := [.int .i64 0, .string ByteArray.empty, .string ByteArray.empty, .int .i64 0, .int .i64 0, .slice none 0 0]
theorem encT_len (t : Tri) : (encT t).length = 6 := rfl
theorem encT_one (t : Tri) : allOne (encT t) = true := rfl
theorem elemT : ElemT Tryz.prog 24 46 6 80 zeroT := ElemT.mk' (by kernel_rfl) (by kernel_rfl)
/-- the lists of numbers of the entries lie where the entries say. -/
def SeenAt (w : World) (ts : List Tri) : Prop := ∀ t ∈ ts, Row w t.2.1 1 (t.1.fSeen.map encI)
theorem SeenAt.e0 {w w' : World} {ts : List Tri} (h : SeenAt w ts) (e : E0 w w') : SeenAt w' ts := fun t ht => (h t ht).e0 e
def fitT (t : Tri) : Prop := fitI t.1.fId ∧ t.1.fTitle.size ≤ maxLen ∧ t.1.fPlace.size ≤ maxLen ∧ fitI t.1.fYear ∧ fitI t.1.fCount ∧ t.1.fSeen.length ≤ 9223372036854775807
/-- the entries and their lists of numbers are all of the call's own, each in a block of its own. -/
structure OwnT (w : World) (lo : Nat) (v : Value) (ts : List Tri) : Prop where
  top : Own w lo 46 6 v (ts.map encT)
  sub : ∀ t ∈ ts, Own w lo 3 1 t.sl (t.1.fSeen.map encI)
  off : ∀ t ∈ ts, ∀ b, v.ownBlock = some b → t.sl.ownBlock ≠ some b
  two : ts.Pairwise fun t u => ∀ b, t.sl.ownBlock = some b → u.sl.ownBlock ≠ some b
theorem OwnT.e0 {w w' : World} {lo : Nat} {v : Value} {ts : List Tri} (h : OwnT w lo v ts) (e : E0 w w') : OwnT w' lo v ts := ⟨h.top.e0 e, fun t ht => (h.sub t ht).e0 e, h.off, h.two⟩
theorem OwnT.lo {w : World} {lo lo' : Nat} {v : Value} {ts : List Tri} (h : OwnT w lo v ts) (e : lo' ≤ lo) : OwnT w lo' v ts := ⟨h.top.lo e, fun t ht => (h.sub t ht).lo e, h.off, h.two⟩
theorem OwnT.seen {w : World} {lo : Nat} {v : Value} {ts : List Tri} (h : OwnT w lo v ts) : SeenAt w ts := fun t ht => (h.sub t ht).row.1
theorem OwnT.rowx {w : World} {lo : Nat} {v : Value} {ts : List Tri} (h : OwnT w lo v ts) : ∃ a c, v = .slice a ts.length c ∧ Row w a 6 (ts.map encT) ∧ SeenAt w ts ∧ ts.length ≤ c := by
  obtain ⟨a, c, rfl, h1, h2⟩ := h.top.rowx
  exact ⟨a, c, rfl, h1, h.seen, h2.1⟩
theorem toEntry_c (t : Tri) (w : World) (hr : Row w t.2.1 1 (t.1.fSeen.map encI)) (hm : t.1.fSeen.length ≤ 1048576) :
    Calls Tryz.prog 35 #[.agg (encT t).toArray] w fun e w' => ∃ v, e = .returned v ∧ E0 w w' ∧ ∃ u : Tri, v = .agg (encT u).toArray ∧ u.1 = t.1 ∧ Own w' w.heap.size 3 1 u.sl (u.1.fSeen.map encI) := by
  obtain ⟨x, a, c⟩ := t
  simp only at hr hm
  refine enterK Non 24 Tryz.func35 rfl rfl rfl fun K hK => ?_
  repeat (any_goals (
    conv => whnf
    first
    | ((with_reducible refine callY (g := 67) ?_ ?_); kernel_rfl; refine ⟨_, fun _ => toIntS_c _ _ _ x.fSeen _ (by repeat (first | assumption | refine Row.e0 ?_ (by assumption))) rfl (by omega), ?_⟩; intro r5 w5 e5 o5; have z6 := cutLe e5; obtain ⟨b5, d5, rfl, q5, z5⟩ := o5.rowx; have oL := fun k h => o5.block (k := k) h)
    | ((with_reducible intro w3 e3); have z3 := cutLe e3; replace o5 := o5.ext e3 (by first | exact fun _ _ h => h | (intro k hk h; have hh := oL k hk; simp only [bk] at h; omega)))
    | ((with_reducible refine BIF.dec ?_ ?_) <;> intro _)
    | ((with_reducible refine BIF.s ?_ ?_) <;> intro _)
    | (with_reducible refine NEXTK.normal ?_)
    | (with_reducible refine NEXTK.ret ?_)
    | (with_reducible refine NEXTK.exit ?_)
    | (with_reducible refine SEQ.plain ?_)
    | (with_reducible refine hK _ _ ?_)
    | ((with_reducible refine RUNL.agg (fun _ => ?_) ?_); (focus kernel_rfl))
    | (with_reducible refine RUNL.run ?_)
    | ((with_reducible refine AR.ok ?_ ?_); exact ⟨by first | omega | (dsimp only; omega), by first | omega | (dsimp only; omega)⟩)
    | (with_reducible refine AR.wr ?_)
    | ((with_reducible intro w3 e3); try have z3 := cutLe e3)
    | ((with_reducible intro h3); have h4 := Nat.le_of_lt h3; clear h4)))
  all_goals
    intro hx'
    exact ⟨_, rfl, hx', ⟨x, b5, d5⟩, rfl, rfl, (by clear hx'; repeat (first | exact o5 | exact o5.lo (by omega) | refine Own.e0 ?_ (by assumption)))⟩
theorem seg_set {ts : List Tri} {k n : Nat} {t : Tri} (hk : ts.length = k) (hn : k < n) : (ts.map encT ++ List.replicate (n - k) zeroT).set k (splice zeroT 0 (encT t)) = (ts ++ [t]).map encT ++ List.replicate (n - (k + 1)) zeroT := by
  subst hk
  rw [List.set_append_right _ _ (by simp)]
  simp only [List.length_map, Nat.sub_self]
  rw [show n - ts.length = (n - (ts.length + 1)) + 1 from by omega, List.replicate_succ, List.set_cons_zero]
  simp
  rfl
theorem seg_get {ts : List Tri} {k n : Nat} (hk : ts.length = k) (hn : k < n) : (ts.map encT ++ List.replicate (n - k) zeroT)[k]? = some zeroT := by
  subst hk
  rw [List.getElem?_append_right (by simp)]
  simp only [List.length_map, Nat.sub_self, List.getElem?_replicate]
  rw [if_pos (by omega)]
theorem pw_snoc {α : Type} {R : α → α → Prop} {xs : List α} {y : α} (h : xs.Pairwise R) (hy : ∀ x ∈ xs, R x y) : (xs ++ [y]).Pairwise R := by
  rw [List.pairwise_append]
  exact ⟨h, by simp, fun a ha b hb => by rw [List.mem_singleton.1 hb]; exact hy a ha⟩
theorem toEntryS_c (a : Option Addr) (n c : Nat) (ts : List Tri) (w : World) (hr : Row w a 6 (ts.map encT)) (hs : SeenAt w ts) (hn : ts.length = n) (hm : n ≤ 1048576) (hz : ∀ t ∈ ts, t.1.fSeen.length ≤ 1048576) :
    Calls Tryz.prog 7 #[.slice a n c] w fun e w' => ∃ v, e = .returned v ∧ E0 w w' ∧ ∃ us : List Tri, us.map (·.1) = ts.map (·.1) ∧ OwnT w' w.heap.size v us := by
  refine enterK Non 23 Tryz.func7 rfl rfl rfl fun K hK => ?_
  conv => whnf
  repeat (first | ((with_reducible refine NEXTK.normal ?_); conv => whnf) | ((with_reducible refine NEXTK.exit ?_); conv => whnf) | ((with_reducible refine NEXTK.ret ?_); conv => whnf) | ((with_reducible refine SEQ.plain ?_); conv => whnf) | ((with_reducible refine AR.ok ?_ ?_); exact ⟨by omega, by omega⟩; conv => whnf))
  refine mkS (n := n) (by exact elemT) (by omega) (fun w1 cp e1 o1 => ?_)
  conv => whnf
  repeat (first | ((with_reducible refine NEXTK.normal ?_); conv => whnf) | ((with_reducible refine NEXTK.exit ?_); conv => whnf) | ((with_reducible refine NEXTK.ret ?_); conv => whnf) | ((with_reducible refine SEQ.plain ?_); conv => whnf) | ((with_reducible refine AR.ok ?_ ?_); exact ⟨by omega, by omega⟩; conv => whnf))
  refine LOOP.mk (Nat × List Tri) (fun g => [(4, .v (.int .i64 g.1))]) (fun g wr => g.1 ≤ n ∧ g.2.length = g.1 ∧ g.2.map (·.1) = (ts.take g.1).map (·.1) ∧ w1.heap.size ≤ wr.heap.size ∧
      Own wr w.heap.size 46 6 (.slice (some ⟨w.heap.size, 0, none⟩) n cp) (g.2.map encT ++ List.replicate (n - g.1) zeroT) ∧
      (∀ t ∈ g.2, Own wr w1.heap.size 3 1 t.sl (t.1.fSeen.map encI)) ∧ g.2.Pairwise fun t u => ∀ b, t.sl.ownBlock = some b → u.sl.ownBlock ≠ some b) (fun g => n - g.1) (0, []) rfl ⟨rfl, trivial⟩ ⟨Nat.zero_le _, rfl, rfl, Nat.le_refl _, by simpa using o1, by simp, List.Pairwise.nil⟩ ?_
  have z1 : w.heap.size < w1.heap.size := (o1.block (k := w.heap.size) rfl).2
  rintro ⟨k, us⟩ wr hX0 ⟨hk, hl, hf, hsz, ho, hsub, htwo⟩
  simp only at hk hl hf hsz ho hsub htwo
  conv => whnf
  repeat (first | ((with_reducible refine NEXTK.normal ?_); conv => whnf) | ((with_reducible refine NEXTK.exit ?_); conv => whnf) | ((with_reducible refine NEXTK.ret ?_); conv => whnf) | ((with_reducible refine SEQ.plain ?_); conv => whnf) | ((with_reducible refine AR.ok ?_ ?_); exact ⟨by omega, by omega⟩; conv => whnf))
  refine BIF.dec (fun hlt => ?_) (fun hlt => ?_)
  · have hlt' : k < ts.length := by simp only at hlt; omega
    have his := hr.isSome (by simp; omega)
    have hold : ∀ t ∈ us, ∀ b, t.sl.ownBlock = some b → b < wr.heap.size := fun t ht b hb => ((hsub t ht).block hb).2
    repeat (any_goals (
      conv => whnf
      first
      | ((with_reducible refine OBL.mk ?_ (fun _ => ?_)); exact ⟨by omega, by omega, by first | exact his | rfl⟩)
      | ((with_reducible refine ELD.at (enc := encT) (xs := ts) k hr ?_ ?_ ?_ (fun t ht => ?_)); exact mAddr_Non _; rfl; exact hlt')
      | ((with_reducible refine callS (g := 35) ?_ ?_); kernel_rfl; refine ⟨_, toEntry_c t _ ((hs t (List.mem_of_getElem? ht)).ext hX0 (mAddr_Non _)) (hz t (List.mem_of_getElem? ht)), ?_⟩; intro r5 w5 e5 h5; have z6 := cutLe e5; obtain ⟨u, rfl, hu, ou⟩ := h5; replace ho := ho.e0 e5; replace hsub := fun t ht => (hsub t ht).e0 e5)
      | ((with_reducible refine BIF.dec ?_ ?_) <;> intro _)
      | ((with_reducible refine BIF.s ?_ ?_) <;> intro _)
      | (with_reducible refine NEXTK.normal ?_)
      | (with_reducible refine NEXTK.ret ?_)
      | (with_reducible refine NEXTK.exit ?_)
      | (with_reducible refine SEQ.plain ?_)
      | (with_reducible refine hK _ _ ?_)
      | ((with_reducible refine RUNL.agg (fun _ => ?_) ?_); (focus kernel_rfl))
      | (with_reducible refine RUNL.run ?_)
      | ((with_reducible refine AR.ok ?_ ?_); exact ⟨by first | omega | (dsimp only; omega), by first | omega | (dsimp only; omega)⟩)
      | (with_reducible refine AR.wr ?_)
      | ((with_reducible intro w3 e3); try have z3 := cutLe e3)
      | ((with_reducible intro h3); have h4 := Nat.le_of_lt h3; clear h4)))
    have hseg := seg_get hl (by simp only at hlt; omega : k < n)
    refine stS (i := k) ho rfl rfl rfl k rfl hseg (by decide) (Nat.le_refl _) trivial (fun w6 e6 ho6 => ?_)
    have hnb : ∀ b, (Value.slice (some ⟨w.heap.size, 0, none⟩) n cp).ownBlock = some b → b = w.heap.size := fun b hb => by simpa [Value.ownBlock] using hb.symm
    have hseg2 : Own w6 w.heap.size 46 6 (.slice (some ⟨w.heap.size, 0, none⟩) n cp) ((us ++ [u]).map encT ++ List.replicate (n - (k + 1)) zeroT) := by
      rw [← seg_set hl (by simp only at hlt; omega : k < n)]; exact ho6
    conv => whnf
    repeat (first | ((with_reducible refine NEXTK.normal ?_); conv => whnf) | ((with_reducible refine NEXTK.exit ?_); conv => whnf) | ((with_reducible refine NEXTK.ret ?_); conv => whnf) | ((with_reducible refine SEQ.plain ?_); conv => whnf) | ((with_reducible refine AR.ok ?_ ?_); exact ⟨by omega, by omega⟩; conv => whnf))
    refine ⟨(k + 1, us ++ [u]), rfl, ⟨rfl, trivial⟩, rfl, rfl, ⟨by simp only at hlt ⊢; omega, by simp [hl], ?_, ?_, hseg2, ?_, ?_⟩, by simp only at hlt ⊢; omega⟩
    · simp only
      rw [List.take_add_one, ht, List.map_append, List.map_append, hf]
      simp [hu]
    · have := cutLe e6; simp only; omega
    · intro t' ht'
      rcases List.mem_append.1 ht' with h | h
      · exact (hsub t' h).ext e6 (fun b hb hb2 => by have := ((hsub t' h).block hb).1; have := hnb b hb2; omega)
      · rw [List.mem_singleton.1 h]
        exact (ou.lo hsz).ext e6 (fun b hb hb2 => by have := (ou.block hb).1; have := hnb b hb2; omega)
    · refine pw_snoc htwo (fun t' ht' b hb hb2 => ?_)
      have h1 := (ou.block hb2).1
      have h2 := hold t' ht' b hb
      omega
  · have hkn : k = n := by simp only at hlt; omega
    repeat (any_goals (
      conv => whnf
      first
      | ((with_reducible refine BIF.dec ?_ ?_) <;> intro _)
      | ((with_reducible refine BIF.s ?_ ?_) <;> intro _)
      | (with_reducible refine NEXTK.normal ?_)
      | (with_reducible refine NEXTK.ret ?_)
      | (with_reducible refine NEXTK.exit ?_)
      | (with_reducible refine SEQ.plain ?_)
      | (with_reducible refine hK _ _ ?_)
      | ((with_reducible refine RUNL.agg (fun _ => ?_) ?_); (focus kernel_rfl))
      | (with_reducible refine RUNL.run ?_)
      | ((with_reducible refine AR.ok ?_ ?_); exact ⟨by first | omega | (dsimp only; omega), by first | omega | (dsimp only; omega)⟩)
      | (with_reducible refine AR.wr ?_)
      | ((with_reducible intro w3 e3); try have z3 := cutLe e3)
      | ((with_reducible intro h3); have h4 := Nat.le_of_lt h3; clear h4)))
    intro hx
    subst hkn
    refine ⟨_, rfl, hx, us, ?_, (?_ : OwnT _ _ (.slice (some ⟨w.heap.size, 0, none⟩) k cp) us)⟩
    · rw [hf, ← hn]; simp
    · refine ⟨by simpa [hl] using ho, fun t ht => (hsub t ht).lo (by omega), fun t ht b hb hb2 => ?_, htwo⟩
      have h1 := ((hsub t ht).block hb2).1
      have h2 : w.heap.size = b := by simpa [Value.ownBlock] using hb
      omega
theorem eqEntry_c (t u : Tri) (w : World) (hr : Row w t.2.1 1 (t.1.fSeen.map encI)) (hs : Row w u.2.1 1 (u.1.fSeen.map encI)) (hm : t.1.fSeen.length ≤ 1048577) (hm2 : u.1.fSeen.length ≤ 1048577) :
    Calls Tryz.prog 39 #[.agg (encT t).toArray, .agg (encT u).toArray] w fun e w' => e = .returned (.bool (decide (t.1 = u.1))) ∧ E0 w w' := by
  refine enterK Non 36 Tryz.func39 rfl rfl rfl fun K hK => ?_
  repeat (any_goals (
    conv => whnf
    first
    | ((with_reducible refine BIF.sne ?_ ?_) <;> intro _)
    | ((with_reducible refine callF (g := 72) ?_ ?_); kernel_rfl; refine ⟨_, eqIntS_c _ _ _ _ _ _ t.1.fSeen u.1.fSeen _ (by repeat (first | assumption | refine Row.e0 ?_ (by assumption))) (by repeat (first | assumption | refine Row.e0 ?_ (by assumption))) rfl rfl (by omega) (by omega), ?_⟩; intro w4 e4; have z4 := cutLe e4)
    | ((with_reducible refine BIF.dec ?_ ?_) <;> intro _)
    | ((with_reducible refine BIF.s ?_ ?_) <;> intro _)
    | (with_reducible refine NEXTK.normal ?_)
    | (with_reducible refine NEXTK.ret ?_)
    | (with_reducible refine NEXTK.exit ?_)
    | (with_reducible refine SEQ.plain ?_)
    | (with_reducible refine hK _ _ ?_)
    | ((with_reducible refine RUNL.agg (fun _ => ?_) ?_); (focus kernel_rfl))
    | (with_reducible refine RUNL.run ?_)
    | ((with_reducible refine AR.ok ?_ ?_); exact ⟨by first | omega | (dsimp only; omega), by first | omega | (dsimp only; omega)⟩)
    | (with_reducible refine AR.wr ?_)
    | ((with_reducible intro w3 e3); try have z3 := cutLe e3)
    | ((with_reducible intro h3); have h4 := Nat.le_of_lt h3; clear h4)))
  all_goals
    intro hx
    refine ⟨?_, hx⟩
    obtain ⟨x, a, c⟩ := t
    obtain ⟨y, b, d⟩ := u
    cases x; cases y; simp_all [resV]
theorem eqEntryS_c (a b : Option Addr) (n c m d : Nat) (ts us : List Tri) (w : World) (hr : Row w a 6 (ts.map encT)) (ht : SeenAt w ts) (hs : Row w b 6 (us.map encT)) (hu : SeenAt w us) (hn : ts.length = n) (hm : us.length = m) (hl : n ≤ 4611686018427387904) (hl2 : m ≤ 4611686018427387904)
    (hz : ∀ t ∈ ts, t.1.fSeen.length ≤ 1048577) (hz2 : ∀ t ∈ us, t.1.fSeen.length ≤ 1048577) :
    Calls Tryz.prog 9 #[.slice a n c, .slice b m d] w fun e w' => e = .returned (.bool (decide (ts.map (·.1) = us.map (·.1)))) ∧ E0 w w' := by
  refine enterK Non 27 Tryz.func9 rfl rfl rfl fun K hK => ?_
  conv => whnf
  repeat (first | ((with_reducible refine NEXTK.normal ?_); conv => whnf) | ((with_reducible refine NEXTK.exit ?_); conv => whnf) | ((with_reducible refine NEXTK.ret ?_); conv => whnf) | ((with_reducible refine SEQ.plain ?_); conv => whnf) | ((with_reducible refine AR.ok ?_ ?_); exact ⟨by omega, by omega⟩; conv => whnf))
  refine BIF.bne (fun hne => ?_) (fun he => ?_)
  · repeat (any_goals (
      conv => whnf
      first
      | ((with_reducible refine BIF.dec ?_ ?_) <;> intro _)
      | ((with_reducible refine BIF.s ?_ ?_) <;> intro _)
      | (with_reducible refine NEXTK.normal ?_)
      | (with_reducible refine NEXTK.ret ?_)
      | (with_reducible refine NEXTK.exit ?_)
      | (with_reducible refine SEQ.plain ?_)
      | (with_reducible refine hK _ _ ?_)
      | ((with_reducible refine RUNL.agg (fun _ => ?_) ?_); (focus kernel_rfl))
      | (with_reducible refine RUNL.run ?_)
      | ((with_reducible refine AR.ok ?_ ?_); exact ⟨by first | omega | (dsimp only; omega), by first | omega | (dsimp only; omega)⟩)
      | (with_reducible refine AR.wr ?_)
      | ((with_reducible intro w3 e3); try have z3 := cutLe e3)
      | ((with_reducible intro h3); have h4 := Nat.le_of_lt h3; clear h4)))
    intro hx
    refine ⟨?_, hx⟩
    rw [decide_eq_false (fun e => hne (by have := congrArg List.length e; rw [List.length_map, List.length_map] at this; omega))]; rfl
  · have hnm : n = m := by omega
    conv => whnf
    repeat (first | ((with_reducible refine NEXTK.normal ?_); conv => whnf) | ((with_reducible refine NEXTK.exit ?_); conv => whnf) | ((with_reducible refine NEXTK.ret ?_); conv => whnf) | ((with_reducible refine SEQ.plain ?_); conv => whnf) | ((with_reducible refine AR.ok ?_ ?_); exact ⟨by omega, by omega⟩; conv => whnf))
    refine LOOP.mk Nat (fun k => [(5, .v (.int .i64 k))]) (fun k wr => k ≤ n ∧ (ts.take k).map (·.1) = (us.take k).map (·.1)) (fun k => n - k) 0 rfl ⟨rfl, trivial⟩ ⟨Nat.zero_le _, rfl⟩ ?_
    rintro k wr hX0 ⟨hk, ho⟩
    conv => whnf
    repeat (first | ((with_reducible refine NEXTK.normal ?_); conv => whnf) | ((with_reducible refine NEXTK.exit ?_); conv => whnf) | ((with_reducible refine NEXTK.ret ?_); conv => whnf) | ((with_reducible refine SEQ.plain ?_); conv => whnf) | ((with_reducible refine AR.ok ?_ ?_); exact ⟨by omega, by omega⟩; conv => whnf))
    refine BIF.dec (fun hlt => ?_) (fun hlt => ?_)
    · have hlt1 : k < ts.length := by omega
      have hlt2 : k < us.length := by omega
      have is1 := hr.isSome (by simp; omega)
      have is2 := hs.isSome (by simp; omega)
      conv => whnf
      repeat (first | ((with_reducible refine NEXTK.normal ?_); conv => whnf) | ((with_reducible refine NEXTK.exit ?_); conv => whnf) | ((with_reducible refine NEXTK.ret ?_); conv => whnf) | ((with_reducible refine SEQ.plain ?_); conv => whnf) | ((with_reducible refine AR.ok ?_ ?_); exact ⟨by omega, by omega⟩; conv => whnf))
      refine DRAW.quiet (by kernel_rfl) (by kernel_rfl) ?_
      repeat (any_goals (
        conv => whnf
        first
        | ((with_reducible refine OBL.mk ?_ (fun _ => ?_)); exact ⟨by omega, by omega, by first | exact is1 | exact is2⟩)
        | ((with_reducible refine ELD.at (enc := encT) (xs := ts) k hr ?_ ?_ ?_ (fun t htk => ?_)); exact mAddr_Non _; rfl; exact hlt1)
        | ((with_reducible refine ELD.at (enc := encT) (xs := us) k hs ?_ ?_ ?_ (fun u huk => ?_)); exact mAddr_Non _; rfl; exact hlt2)
        | ((with_reducible refine callQ (g := 39) ?_ ?_); kernel_rfl; refine ⟨_, fun w' e' => eqEntry_c t u _ (((ht t (List.mem_of_getElem? htk)).ext hX0 (mAddr_Non _)).e0 e') (((hu u (List.mem_of_getElem? huk)).ext hX0 (mAddr_Non _)).e0 e') (hz t (List.mem_of_getElem? htk)) (hz2 u (List.mem_of_getElem? huk)), ?_⟩)
        | ((with_reducible refine BIF.dec ?_ ?_) <;> intro _)
        | ((with_reducible refine BIF.s ?_ ?_) <;> intro _)
        | (with_reducible refine NEXTK.normal ?_)
        | (with_reducible refine NEXTK.ret ?_)
        | (with_reducible refine NEXTK.exit ?_)
        | (with_reducible refine SEQ.plain ?_)
        | (with_reducible refine hK _ _ ?_)
        | ((with_reducible refine RUNL.agg (fun _ => ?_) ?_); (focus kernel_rfl))
        | (with_reducible refine RUNL.run ?_)
        | ((with_reducible refine AR.ok ?_ ?_); exact ⟨by first | omega | (dsimp only; omega), by first | omega | (dsimp only; omega)⟩)
        | (with_reducible refine AR.wr ?_)
        | ((with_reducible intro w3 e3); try have z3 := cutLe e3)
        | ((with_reducible intro h3); have h4 := Nat.le_of_lt h3; clear h4)))
      all_goals first
        | (intro hw
           refine ⟨?_, hw⟩
           rw [decide_eq_false (fun e => by
             have h1 : (ts.map (·.1))[k]? = some t.1 := by rw [List.getElem?_map, htk]; rfl
             have h2 : (us.map (·.1))[k]? = some u.1 := by rw [List.getElem?_map, huk]; rfl
             rw [e, h2] at h1
             simp_all)]; rfl)
        | (refine ⟨k + 1, rfl, ⟨rfl, trivial⟩, rfl, rfl, ⟨by omega, ?_⟩, by omega⟩
           rw [List.take_add_one, List.take_add_one, List.map_append, List.map_append, ho, htk, huk]
           simp_all)
    · conv => whnf
      repeat (first | ((with_reducible refine NEXTK.normal ?_); conv => whnf) | ((with_reducible refine NEXTK.exit ?_); conv => whnf) | ((with_reducible refine NEXTK.ret ?_); conv => whnf) | ((with_reducible refine SEQ.plain ?_); conv => whnf) | ((with_reducible refine AR.ok ?_ ?_); exact ⟨by omega, by omega⟩; conv => whnf))
      refine hK _ _ ?_
      conv => whnf
      intro hx
      refine ⟨?_, hx⟩
      have e1 : k = ts.length := by omega
      have e2 : k = us.length := by omega
      rw [List.take_of_length_le (by omega), List.take_of_length_le (by omega)] at ho
      rw [decide_eq_true ho]; rfl

def lens (ts : List Tri) : Nat := (ts.map (·.1.fSeen.length)).sum
theorem lens_take {ts : List Tri} {k : Nat} {t : Tri} (h : ts[k]? = some t) : lens (ts.take (k + 1)) = lens (ts.take k) + t.1.fSeen.length := by
  unfold lens
  rw [List.take_add_one, h]; simp
theorem lens_mem : ∀ {ts : List Tri} {t : Tri}, t ∈ ts → t.1.fSeen.length ≤ lens ts
  | u :: ts, t, h => by
    unfold lens
    rw [List.map_cons, List.sum_cons]
    rcases List.mem_cons.1 h with rfl | h
    · omega
    · have := lens_mem h
      unfold lens at this
      omega
theorem lens_pre (ts : List Tri) (k : Nat) : lens (ts.take k) ≤ lens ts := by
  unfold lens
  conv => rhs; rw [← List.take_append_drop k ts]
  rw [List.map_append, List.sum_append]; omega
theorem szEntry_c (t : Tri) (l : Int) (w : World) (hl : 0 ≤ l ∧ l ≤ 1048576) (h1 : t.1.fTitle.size ≤ 9223372036854775807) (h2 : t.1.fPlace.size ≤ 9223372036854775807) (h3 : t.1.fSeen.length ≤ 9223372036854775807) :
    Calls Tryz.prog 31 #[.agg (encT t).toArray, .int .i64 l] w fun e w' => ∃ r, e = .returned r ∧ E0 w w' ∧ ∃ v : Int, r = .int .i64 v ∧ (v = -1 ∨ 0 ≤ v ∧ v + t.1.fSeen.length ≤ l) := by
  refine enterK Non 26 Tryz.func31 rfl rfl rfl fun K hK => ?_
  by_cases hq : (t.1.fSeen.length : Int) ≤ l - t.1.fTitle.size - t.1.fPlace.size
  · repeat (any_goals (
      conv => whnf
      first
      | ((with_reducible refine callF (g := 60) ?_ ?_); kernel_rfl; refine ⟨_, szIntS_ok _ t.1.fSeen.length _ (l - t.1.fTitle.size - t.1.fPlace.size) _ (by omega), ?_⟩; intro w4 e4; have z4 := cutLe e4)
      | ((exfalso; omega))
      | ((with_reducible refine BIF.dec ?_ ?_) <;> intro _)
      | ((with_reducible refine BIF.s ?_ ?_) <;> intro _)
      | (with_reducible refine NEXTK.normal ?_)
      | (with_reducible refine NEXTK.ret ?_)
      | (with_reducible refine NEXTK.exit ?_)
      | (with_reducible refine SEQ.plain ?_)
      | (with_reducible refine hK _ _ ?_)
      | ((with_reducible refine RUNL.agg (fun _ => ?_) ?_); (focus kernel_rfl))
      | (with_reducible refine RUNL.run ?_)
      | ((with_reducible refine AR.ok ?_ ?_); exact ⟨by first | omega | (dsimp only; omega), by first | omega | (dsimp only; omega)⟩)
      | (with_reducible refine AR.wr ?_)
      | ((with_reducible intro w3 e3); try have z3 := cutLe e3)
      | ((with_reducible intro h3); have h4 := Nat.le_of_lt h3; clear h4)))
    all_goals
      intro hx
      refine ⟨_, rfl, hx, _, rfl, ?_⟩
      omega
  · repeat (any_goals (
      conv => whnf
      first
      | ((with_reducible refine callF (g := 60) ?_ ?_); kernel_rfl; refine ⟨_, szIntS_no _ t.1.fSeen.length _ (l - t.1.fTitle.size - t.1.fPlace.size) _ (by omega), ?_⟩; intro w4 e4; have z4 := cutLe e4)
      | ((exfalso; omega))
      | ((with_reducible refine BIF.dec ?_ ?_) <;> intro _)
      | ((with_reducible refine BIF.s ?_ ?_) <;> intro _)
      | (with_reducible refine NEXTK.normal ?_)
      | (with_reducible refine NEXTK.ret ?_)
      | (with_reducible refine NEXTK.exit ?_)
      | (with_reducible refine SEQ.plain ?_)
      | (with_reducible refine hK _ _ ?_)
      | ((with_reducible refine RUNL.agg (fun _ => ?_) ?_); (focus kernel_rfl))
      | (with_reducible refine RUNL.run ?_)
      | ((with_reducible refine AR.ok ?_ ?_); exact ⟨by first | omega | (dsimp only; omega), by first | omega | (dsimp only; omega)⟩)
      | (with_reducible refine AR.wr ?_)
      | ((with_reducible intro w3 e3); try have z3 := cutLe e3)
      | ((with_reducible intro h3); have h4 := Nat.le_of_lt h3; clear h4)))
    all_goals
      intro hx
      exact ⟨_, rfl, hx, _, rfl, .inl rfl⟩
theorem szEntryS_c (a : Option Addr) (n c : Nat) (ts : List Tri) (l : Int) (w : World) (hr : Row w a 6 (ts.map encT)) (hn : ts.length = n) (hm : n ≤ 9223372036854775807) (hg : ∀ t ∈ ts, fitT t) (hl : 0 ≤ l ∧ l ≤ 1048576) :
    Calls Tryz.prog 5 #[.slice a n c, .int .i64 l] w fun e w' => ∃ r, e = .returned r ∧ E0 w w' ∧ ∃ v : Int, r = .int .i64 v ∧ (v = -1 ∨ 0 ≤ v ∧ v + n + lens ts ≤ l) := by
  refine enterK Non 27 Tryz.func5 rfl rfl rfl fun K hK => ?_
  by_cases hnl : l < n
  · repeat (any_goals (
      conv => whnf
      first
      | ((exfalso; omega))
      | ((with_reducible refine BIF.dec ?_ ?_) <;> intro _)
      | ((with_reducible refine BIF.s ?_ ?_) <;> intro _)
      | (with_reducible refine NEXTK.normal ?_)
      | (with_reducible refine NEXTK.ret ?_)
      | (with_reducible refine NEXTK.exit ?_)
      | (with_reducible refine SEQ.plain ?_)
      | (with_reducible refine hK _ _ ?_)
      | ((with_reducible refine RUNL.agg (fun _ => ?_) ?_); (focus kernel_rfl))
      | (with_reducible refine RUNL.run ?_)
      | ((with_reducible refine AR.ok ?_ ?_); exact ⟨by first | omega | (dsimp only; omega), by first | omega | (dsimp only; omega)⟩)
      | (with_reducible refine AR.wr ?_)
      | ((with_reducible intro w3 e3); try have z3 := cutLe e3)
      | ((with_reducible intro h3); have h4 := Nat.le_of_lt h3; clear h4)))
    intro hx
    exact ⟨_, rfl, hx, _, rfl, .inl rfl⟩
  repeat (any_goals (
    conv => whnf
    first
    | ((exfalso; omega))
    | ((with_reducible refine BIF.dec ?_ ?_) <;> intro _)
    | ((with_reducible refine BIF.s ?_ ?_) <;> intro _)
    | (with_reducible refine NEXTK.normal ?_)
    | (with_reducible refine NEXTK.ret ?_)
    | (with_reducible refine NEXTK.exit ?_)
    | (with_reducible refine SEQ.plain ?_)
    | (with_reducible refine hK _ _ ?_)
    | ((with_reducible refine RUNL.agg (fun _ => ?_) ?_); (focus kernel_rfl))
    | (with_reducible refine RUNL.run ?_)
    | ((with_reducible refine AR.ok ?_ ?_); exact ⟨by first | omega | (dsimp only; omega), by first | omega | (dsimp only; omega)⟩)
    | (with_reducible refine AR.wr ?_)
    | ((with_reducible intro w3 e3); try have z3 := cutLe e3)
    | ((with_reducible intro h3); have h4 := Nat.le_of_lt h3; clear h4)))
  conv => whnf
  refine LOOP.mk (Nat × Int) (fun g => [(5, .v (.int .i64 g.1)), (1, .v (.int .i64 g.2))]) (fun g _ => g.1 ≤ n ∧ 0 ≤ g.2 ∧ g.2 + n + lens (ts.take g.1) ≤ l) (fun g => n - g.1) (0, l - n) rfl ⟨rfl, rfl, trivial⟩ ⟨Nat.zero_le _, by simp only; omega, by simp [lens]⟩ ?_
  rintro ⟨j, s⟩ wr - ⟨hj, hs0, hs1⟩
  simp only at hj hs0 hs1
  conv => whnf
  repeat (first | ((with_reducible refine NEXTK.normal ?_); conv => whnf) | ((with_reducible refine NEXTK.exit ?_); conv => whnf) | ((with_reducible refine NEXTK.ret ?_); conv => whnf) | ((with_reducible refine SEQ.plain ?_); conv => whnf) | ((with_reducible refine AR.ok ?_ ?_); exact ⟨by omega, by omega⟩; conv => whnf))
  refine BIF.dec (fun hlt => ?_) (fun hlt => ?_)
  · have hlt' : j < ts.length := by simp only at hlt; omega
    have his := hr.isSome (by simp; omega)
    obtain ⟨t, ht⟩ : ∃ t, ts[j]? = some t := ⟨ts[j]'(by omega), by simp⟩
    have hgt := hg t (List.mem_of_getElem? ht)
    unfold fitT maxLen at hgt
    repeat (any_goals (
      conv => whnf
      first
      | ((with_reducible refine OBL.mk ?_ (fun _ => ?_)); exact ⟨by first | omega | (dsimp only; omega), by first | omega | (dsimp only; omega), his⟩)
      | ((with_reducible refine ELD.at (j) hr ?_ ?_ ?_ (fun x' hx' => ?_)); exact mAddr_Non _; (first | rfl | omega); exact hlt'; obtain rfl : t = x' := by (rw [ht] at hx'; exact Option.some.inj hx'))
      | ((with_reducible refine callS (g := 31) ?_ ?_); kernel_rfl; refine ⟨_, szEntry_c t s _ (by omega) (by omega) (by omega) (by omega), ?_⟩; intro r5 w5 e5 h5; have z6 := cutLe e5; obtain ⟨v, rfl, hv⟩ := h5)
      | ((with_reducible refine BIF.dec ?_ ?_) <;> intro _)
      | ((with_reducible refine BIF.dec ?_ ?_) <;> intro _)
      | ((with_reducible refine BIF.s ?_ ?_) <;> intro _)
      | (with_reducible refine NEXTK.normal ?_)
      | (with_reducible refine NEXTK.ret ?_)
      | (with_reducible refine NEXTK.exit ?_)
      | (with_reducible refine SEQ.plain ?_)
      | (with_reducible refine hK _ _ ?_)
      | ((with_reducible refine RUNL.agg (fun _ => ?_) ?_); (focus kernel_rfl))
      | (with_reducible refine RUNL.run ?_)
      | ((with_reducible refine AR.ok ?_ ?_); exact ⟨by first | omega | (dsimp only; omega), by first | omega | (dsimp only; omega)⟩)
      | (with_reducible refine AR.wr ?_)
      | ((with_reducible intro w3 e3); try have z3 := cutLe e3)
      | ((with_reducible intro h3); have h4 := Nat.le_of_lt h3; clear h4)))
    · intro hx'
      exact ⟨_, rfl, hx', _, rfl, .inl rfl⟩
    · have hlt2 := lens_take ht
      exact ⟨(j + 1, v), rfl, ⟨rfl, rfl, trivial⟩, rfl, rfl, ⟨by simp only; omega, by simp only; omega, by simp only; omega⟩, by simp only; omega⟩
  · repeat (any_goals (
      conv => whnf
      first
      | ((with_reducible refine BIF.dec ?_ ?_) <;> intro _)
      | ((with_reducible refine BIF.s ?_ ?_) <;> intro _)
      | (with_reducible refine NEXTK.normal ?_)
      | (with_reducible refine NEXTK.ret ?_)
      | (with_reducible refine NEXTK.exit ?_)
      | (with_reducible refine SEQ.plain ?_)
      | (with_reducible refine hK _ _ ?_)
      | ((with_reducible refine RUNL.agg (fun _ => ?_) ?_); (focus kernel_rfl))
      | (with_reducible refine RUNL.run ?_)
      | ((with_reducible refine AR.ok ?_ ?_); exact ⟨by first | omega | (dsimp only; omega), by first | omega | (dsimp only; omega)⟩)
      | (with_reducible refine AR.wr ?_)
      | ((with_reducible intro w3 e3); try have z3 := cutLe e3)
      | ((with_reducible intro h3); have h4 := Nat.le_of_lt h3; clear h4)))
    intro hx'
    simp only at hlt
    rw [List.take_of_length_le (by omega)] at hs1
    exact ⟨_, rfl, hx', _, rfl, .inr ⟨hs0, hs1⟩⟩
/-- an entry that the law has marked from k on. -/
def mkE (k : Int) (x : Ent) : Ent := ⟨k, mtS (k + 1), mtS (k + 1 + 1), k + 1 + 1 + 1, k + 1 + 1 + 1 + 1, (List.range x.fSeen.length).map (mkI (k + 1 + 1 + 1 + 1 + 1))⟩
theorem mkE_len (k : Int) (x : Ent) : (mkE k x).fSeen.length = x.fSeen.length := by simp [mkE]
def nxE (k : Int) (x : Ent) : Int := k + 1 + 1 + 1 + 1 + 1 + 1 * x.fSeen.length
def mkEs : Int → List Ent → List Ent
  | _, [] => []
  | k, x :: t => mkE k x :: mkEs (nxE k x) t
def nxEs : Int → List Ent → Int
  | k, [] => k
  | k, x :: t => nxEs (nxE k x) t
theorem mkEs_snoc : ∀ (k : Int) (xs : List Ent) (x : Ent), mkEs k (xs ++ [x]) = mkEs k xs ++ [mkE (nxEs k xs) x] ∧ nxEs k (xs ++ [x]) = nxE (nxEs k xs) x
  | k, [], x => ⟨rfl, rfl⟩
  | k, y :: t, x => by
    obtain ⟨h1, h2⟩ := mkEs_snoc (nxE k y) t x
    exact ⟨by simp [mkEs, nxEs, h1], by simp [nxEs, h2]⟩
theorem mkEs_len : ∀ (k : Int) (xs : List Ent), (mkEs k xs).length = xs.length
  | k, [] => rfl
  | k, y :: t => by simp [mkEs, mkEs_len (nxE k y) t]
theorem nxEs_eq : ∀ (k : Int) (ts : List Tri), nxEs k (ts.map (·.1)) = k + 5 * ts.length + lens ts
  | k, [] => by simp [nxEs, lens]
  | k, t :: ts => by
    rw [List.map_cons, nxEs, nxEs_eq (nxE k t.1) ts]
    simp only [nxE, lens, List.map_cons, List.sum_cons, List.length_cons]
    push_cast
    omega
theorem mkEs_get : ∀ (k : Int) (xs : List Ent) (j : Nat) (x : Ent), xs[j]? = some x → (mkEs k xs)[j]? = some (mkE (nxEs k (xs.take j)) x)
  | k, y :: t, 0, x, h => by simp at h; subst h; rfl
  | k, y :: t, j + 1, x, h => by
    simp only [List.getElem?_cons_succ] at h
    simp only [mkEs, List.getElem?_cons_succ, List.take_succ_cons, nxEs]
    exact mkEs_get (nxE k y) t j x h
theorem OwnT.dif {w : World} {lo : Nat} {v : Value} {ts : List Tri} (h : OwnT w lo v ts) {i j : Nat} {t u : Tri} (hij : i ≠ j) (hi : ts[i]? = some t) (hj : ts[j]? = some u) {b : Nat} (hb : t.sl.ownBlock = some b) : u.sl.ownBlock ≠ some b := by
  obtain ⟨i1, i2⟩ := List.getElem?_eq_some_iff.1 hi
  obtain ⟨j1, j2⟩ := List.getElem?_eq_some_iff.1 hj
  have hp := List.pairwise_iff_getElem.1 h.two
  rcases Nat.lt_or_ge i j with hlt | hge
  · have := hp i j i1 j1 hlt
    rw [i2, j2] at this
    exact this b hb
  · have := hp j i j1 i1 (by omega)
    rw [i2, j2] at this
    intro hb2
    exact this b hb2 hb
/-- what an entry's list of numbers becomes when one entry of the own is set. -/
theorem OwnT.set {w w' : World} {lo : Nat} {v : Value} {ts : List Tri} (h : OwnT w lo v ts) {j : Nat} {t u : Tri} (hj : ts[j]? = some t) (hs : u.sl.ownBlock = t.sl.ownBlock)
    (ht : Own w' lo 46 6 v ((ts.map encT).set j (encT u))) (hu : Own w' lo 3 1 u.sl (u.1.fSeen.map encI)) (e : Ext (fun b => v.ownBlock = some b ∨ t.sl.ownBlock = some b) w w') : OwnT w' lo v (ts.set j u) := by
  have hjl := (List.getElem?_eq_some_iff.1 hj).1
  have hmem : ∀ x ∈ ts.set j u, x = u ∨ ∃ i, i ≠ j ∧ ts[i]? = some x := fun x hx => by
    obtain ⟨i, hi⟩ := List.getElem?_of_mem hx
    rw [List.getElem?_set] at hi
    split at hi
    · left
      cases hi; rfl
    · right; exact ⟨i, by omega, hi⟩
  refine ⟨by rw [List.map_set]; exact ht, fun x hx => ?_, fun x hx b hb => ?_, ?_⟩
  · rcases hmem x hx with rfl | ⟨i, hi, hxi⟩
    · exact hu
    · refine (h.sub x (List.mem_of_getElem? hxi)).ext e (fun b hb hb2 => ?_)
      rcases hb2 with h2 | h2
      · exact h.off x (List.mem_of_getElem? hxi) b h2 hb
      · exact h.dif hi hxi hj hb h2
  · rcases hmem x hx with rfl | ⟨i, hi, hxi⟩
    · rw [hs]; exact h.off t (List.mem_of_getElem? hj) b hb
    · exact h.off x (List.mem_of_getElem? hxi) b hb
  · rw [List.pairwise_iff_getElem]
    intro p q hp hq hpq b hb hb2
    rw [List.length_set] at hp hq
    rw [List.getElem_set] at hb hb2
    split at hb
    · split at hb2
      · omega
      · rw [hs] at hb
        exact h.dif (by omega : j ≠ q) hj (List.getElem?_eq_getElem hq) hb hb2
    · split at hb2
      · rw [hs] at hb2
        exact h.dif (by omega : p ≠ j) (List.getElem?_eq_getElem hp) hj hb hb2
      · exact h.dif (by omega : p ≠ q) (List.getElem?_eq_getElem hp) (List.getElem?_eq_getElem hq) hb hb2
/-- the blocks of own entries. -/
def blksT (v : Value) (ts : List Tri) (b : Nat) : Prop := v.ownBlock = some b ∨ ∃ t ∈ ts, t.sl.ownBlock = some b

end Go.Proofs.YtpddilkonkkppaaGreatDoor

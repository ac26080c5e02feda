/- What sound entries are. -/
import Derived.Test.YtpddilkonkkppaaGreatDoorRows
import Derived.Test.YtpddilkonkkppaaGreatDoorMerge2
namespace Go.Proofs.YtpddilkonkkppaaGreatDoor
open Go Go.X Go.Proofs Go.ChangeShapes Go.WideShapes Go.ChangeAt Go.RowKit
open Go.ChangeMaps (open_string shut_string)
set_option maxHeartbeats 1000000
set_option maxRecDepth 20000
set_option linter.unusedVariables false
set_option linter.unusedSimpArgs false
def gAtE (es : List Ent) (k : Nat) : Bool :=
  match es[k]? with
  | some x => okE x && (k == 0 || (match es[k - 1]? with
      | some y => decide (y.fId < x.fId)
      | none => true))
  | none => true
def seenAt (es : List Ent) (k : Nat) (s : Int) : Bool := decide (idxP (knowsB s) es = k) && !(es.drop (k + 1)).any (knowsB s)
def eAt (es : List Ent) (k : Nat) : Bool := gAtE es k && (match es[k]? with | some x => x.fSeen.all (seenAt es k) | none => true)
def eUp (es : List Ent) (k : Nat) : Bool := (List.range k).all (eAt es)
theorem eUp_succ (es : List Ent) (k : Nat) : eUp es (k + 1) = (eUp es k && eAt es k) := by simp [eUp, List.range_succ]
def areE (es : List Ent) : Bool := eUp es es.length && decide (es.length ≤ 12)
theorem areE_false {es : List Ent} {k : Nat} (hk : k < es.length) (h : eAt es k = false) : areE es = false := by
  simp only [areE, eUp, Bool.and_eq_false_iff]
  left
  rw [List.all_eq_false]
  exact ⟨k, by simpa using hk, by simp [h]⟩
theorem gAtE_get {es : List Ent} {k : Nat} {x y : Ent} (hk : 0 < k) (hx : es[k]? = some x) (hy : es[k - 1]? = some y) : gAtE es k = (okE x && decide (y.fId < x.fId)) := by
  unfold gAtE
  rw [hx, hy]
  have : (k == 0) = false := by simp; omega
  simp [this]
theorem gAtE_zero {es : List Ent} {x : Ent} (hx : es[0]? = some x) : gAtE es 0 = okE x := by
  unfold gAtE
  rw [hx]
  simp
theorem idxP_map {α β : Type} (f : α → β) (p : β → Bool) (xs : List α) : idxP (fun x => p (f x)) xs = idxP p (xs.map f) := by
  unfold idxP
  rw [List.findIdx?_map]
  rfl
theorem fst_at {ts : List Tri} {k : Nat} {t : Tri} (h : ts[k]? = some t) : (ts.map (·.1))[k]? = some t.1 := by rw [List.getElem?_map, h]; rfl
theorem entryOf1_c (t : Tri) (s : Int) (p : Addr) (w : World) (hp : Row w (some p) 1 [[.int .i64 s]]) (hr : Row w t.2.1 1 (t.1.fSeen.map encI)) (hm : t.1.fSeen.length ≤ 1048577) :
    Calls Tryz.prog 81 #[.agg (encT t).toArray, .pointer (some p)] w fun e w' => e = .returned (.bool (knowsB s t.1)) ∧ E0 w w' := by
  refine enterK Non 7 Tryz.func81 rfl rfl rfl fun K hK => ?_
  repeat (any_goals (
    conv => whnf
    first
    | ((with_reducible refine ELD.old [[.int .i64 s]] [.int .i64 s] hp ?_ ?_ ?_); exact mAddr_Non _; rfl)
    | ((with_reducible refine callF (g := 49) ?_ ?_); kernel_rfl; refine ⟨_, knows_c t s _ (by repeat (first | assumption | refine Row.e0 ?_ (by assumption))) hm, ?_⟩; intro w4 e4; have z4 := cutLe e4)
    | ((with_reducible refine BIF.dec ?_ ?_) <;> intro _)
    | ((with_reducible refine BIF.s ?_ ?_) <;> intro _)
    | (with_reducible refine NEXTK.normal ?_)
    | (with_reducible refine NEXTK.ret ?_)
    | (with_reducible refine NEXTK.exit ?_)
    | (with_reducible refine SEQ.plain ?_)
    | (with_reducible refine hK _ _ ?_)
    | ((with_reducible refine RUNL.agg (fun _ => ?_) ?_); (focus kernel_rfl))
    | (with_reducible refine RUNL.run ?_)
    | ((with_reducible refine AR.ok ?_ ?_); exact ⟨by first | omega | (dsimp only; omega), by first | omega | (dsimp only; omega)⟩)
    | (with_reducible refine AR.wr ?_)
    | ((with_reducible intro w3 e3); try have z3 := cutLe e3)
    | ((with_reducible intro h3); have h4 := Nat.le_of_lt h3; clear h4)))
  intro hx
  exact ⟨rfl, hx⟩
theorem AreEntries1_c (t : Tri) (s : Int) (p : Addr) (w : World) (hp : Row w (some p) 1 [[.int .i64 s]]) (hr : Row w t.2.1 1 (t.1.fSeen.map encI)) (hm : t.1.fSeen.length ≤ 1048577) :
    Calls Tryz.prog 48 #[.agg (encT t).toArray, .pointer (some p)] w fun e w' => e = .returned (.bool (knowsB s t.1)) ∧ E0 w w' := by
  refine enterK Non 7 Tryz.func48 rfl rfl rfl fun K hK => ?_
  repeat (any_goals (
    conv => whnf
    first
    | ((with_reducible refine ELD.old [[.int .i64 s]] [.int .i64 s] hp ?_ ?_ ?_); exact mAddr_Non _; rfl)
    | ((with_reducible refine callF (g := 49) ?_ ?_); kernel_rfl; refine ⟨_, knows_c t s _ (by repeat (first | assumption | refine Row.e0 ?_ (by assumption))) hm, ?_⟩; intro w4 e4; have z4 := cutLe e4)
    | ((with_reducible refine BIF.dec ?_ ?_) <;> intro _)
    | ((with_reducible refine BIF.s ?_ ?_) <;> intro _)
    | (with_reducible refine NEXTK.normal ?_)
    | (with_reducible refine NEXTK.ret ?_)
    | (with_reducible refine NEXTK.exit ?_)
    | (with_reducible refine SEQ.plain ?_)
    | (with_reducible refine hK _ _ ?_)
    | ((with_reducible refine RUNL.agg (fun _ => ?_) ?_); (focus kernel_rfl))
    | (with_reducible refine RUNL.run ?_)
    | ((with_reducible refine AR.ok ?_ ?_); exact ⟨by first | omega | (dsimp only; omega), by first | omega | (dsimp only; omega)⟩)
    | (with_reducible refine AR.wr ?_)
    | ((with_reducible intro w3 e3); try have z3 := cutLe e3)
    | ((with_reducible intro h3); have h4 := Nat.le_of_lt h3; clear h4)))
  intro hx
  exact ⟨rfl, hx⟩
theorem entryOf_c (a : Option Addr) (n c : Nat) (ts : List Tri) (s : Int) (w : World) (hr : Row w a 6 (ts.map encT)) (hs : SeenAt w ts) (hn : ts.length = n) (hm : n ≤ 1048577) (hz : ∀ t ∈ ts, t.1.fSeen.length ≤ 1048577) :
    Calls Tryz.prog 46 #[.slice a n c, .int .i64 s] w fun e w' => e = .returned (.int .i64 (idxP (knowsB s) (ts.map (·.1)))) ∧ E0 w w' := by
  refine enterK Non 8 Tryz.func46 rfl rfl rfl fun K hK => ?_
  repeat (any_goals (
    conv => whnf
    first
    | ((with_reducible refine RUN.mk (fun _ => rfl) ?_))
    | ((with_reducible refine callXB (g := 80) ?_ ?_); kernel_rfl; intro hX hbx; refine ⟨_, IndexFuncT_c (fun t => knowsB s t.1) _ _ _ ts _ _ _ (by repeat (first | assumption | refine Row.e0 ?_ (by assumption))) hn (by omega) (by kernel_rfl) (fun t ht w' e => entryOf1_c t s _ _ ((Boxes.row hbx 0 _ _ _ rfl).e0 e) (((hs t ht).ext hX (mAddr_Non _)).e0 e) (hz t ht)), ?_⟩; intro w4 e4)
    | ((with_reducible refine BIF.dec ?_ ?_) <;> intro _)
    | ((with_reducible refine BIF.s ?_ ?_) <;> intro _)
    | (with_reducible refine NEXTK.normal ?_)
    | (with_reducible refine NEXTK.ret ?_)
    | (with_reducible refine NEXTK.exit ?_)
    | (with_reducible refine SEQ.plain ?_)
    | (with_reducible refine hK _ _ ?_)
    | ((with_reducible refine RUNL.agg (fun _ => ?_) ?_); (focus kernel_rfl))
    | (with_reducible refine RUNL.run ?_)
    | ((with_reducible refine AR.ok ?_ ?_); exact ⟨by first | omega | (dsimp only; omega), by first | omega | (dsimp only; omega)⟩)
    | (with_reducible refine AR.wr ?_)
    | ((with_reducible intro w3 e3); try have z3 := cutLe e3)
    | ((with_reducible intro h3); have h4 := Nat.le_of_lt h3; clear h4)))
  intro hw
  refine ⟨?_, hw⟩
  rw [← idxP_map (·.1) (knowsB s) ts]
  rfl

end Go.Proofs.YtpddilkonkkppaaGreatDoor

/- The index of a gift. -/
import Derived.Test.YtohnoccmaeegdaaGreatDoorRows
import Derived.Test.YtohnoccmaeegdaaGreatDoorGifts
namespace Go.Proofs.YtohnoccmaeegdaaGreatDoor
open Go Go.X Go.Proofs Go.ChangeShapes Go.WideShapes Go.ChangeAt Go.RowKit
open Go.ChangeMaps (open_string shut_string)
set_option maxHeartbeats 1000000
set_option maxRecDepth 20000
set_option linter.unusedVariables false
set_option linter.unusedSimpArgs false
theorem okG_spec {x : Gft} (h : okG x = true) : (1 ≤ x.fId ∧ x.fId ≤ 99) ∧ okW x.fGiver = true ∧ (1 ≤ x.fSheets ∧ x.fSheets ≤ 99) ∧ (0 ≤ x.fDay ∧ x.fDay ≤ 4000) ∧ (x.fThanks = -1 ∨ (0 ≤ x.fThanks ∧ x.fThanks ≤ 4000) ∧ x.fDay ≤ x.fThanks) := by
  simp only [okG, Bool.and_eq_true, Bool.or_eq_true, beq_iff_eq, decide_eq_true_eq] at h
  obtain ⟨⟨⟨⟨h1, h2⟩, h3⟩, h4⟩, h5⟩ := h
  refine ⟨inB_iff.1 h1, h2, inB_iff.1 h3, inB_iff.1 h4, ?_⟩
  rcases h5 with h | ⟨h, h'⟩
  · exact .inl h
  · exact .inr ⟨inB_iff.1 h, h'⟩
theorem areG_len {xs : List Gft} (h : areG xs = true) : xs.length ≤ 12 := by
  simp [areG] at h; exact h.2
theorem areG_at {xs : List Gft} (h : areG xs = true) {k : Nat} {x : Gft} (hx : xs[k]? = some x) : okG x = true := by
  simp only [areG, gUpto, Bool.and_eq_true, List.all_eq_true, List.mem_range] at h
  have hk : k < xs.length := (List.getElem?_eq_some_iff.1 hx).1
  have := h.1 k hk
  simp [gAt, hx] at this
  exact this.1
theorem areG_ok {xs : List Gft} (h : areG xs = true) : ∀ x ∈ xs, okG x = true := by
  intro x hx
  obtain ⟨k, hk⟩ := List.getElem?_of_mem hx
  exact areG_at h hk
def idAt (xs : List Gft) (id : Int) : Int :=
  match xs.findIdx? (fun x => x.fId == id) with
  | some k => k
  | none => -1
theorem idAt_hit {xs : List Gft} {id : Int} {k : Nat} {x : Gft} (hx : xs[k]? = some x) (hid : x.fId = id) (hno : ∀ j y, j < k → xs[j]? = some y → y.fId ≠ id) : idAt xs id = k := by
  obtain ⟨hk, hx⟩ := List.getElem?_eq_some_iff.1 hx
  have : xs.findIdx? (fun x => x.fId == id) = some k := by
    rw [List.findIdx?_eq_some_iff_getElem]
    refine ⟨hk, by simp [hx, hid], fun j hj => ?_⟩
    simpa using hno j _ hj (List.getElem?_eq_getElem (by omega))
  simp [idAt, this]
theorem idAt_none {xs : List Gft} {id : Int} (hno : ∀ (j : Nat) y, xs[j]? = some y → y.fId ≠ id) : idAt xs id = -1 := by
  have : xs.findIdx? (fun x => x.fId == id) = none := by
    rw [List.findIdx?_eq_none_iff]
    intro x hx
    obtain ⟨j, hj⟩ := List.getElem?_of_mem hx
    simpa using hno j x hj
  simp [idAt, this]
theorem idAt_spec (xs : List Gft) (id : Int) : idAt xs id = -1 ∨ ∃ (k : Nat) (x : Gft), idAt xs id = k ∧ k < xs.length ∧ xs[k]? = some x ∧ x.fId = id := by
  cases h : xs.findIdx? (fun x => x.fId == id) with
  | none => left; simp [idAt, h]
  | some k =>
    right
    rw [List.findIdx?_eq_some_iff_getElem] at h
    obtain ⟨hk, hp, hn⟩ := h
    have hx := List.getElem?_eq_getElem hk
    refine ⟨k, xs[k], ?_, hk, hx, by simpa using hp⟩
    exact idAt_hit hx (by simpa using hp) (fun j y hj hy => by
      have := hn j hj
      rw [List.getElem?_eq_getElem (by omega)] at hy
      cases hy
      simpa using this)
theorem IndexFuncGftI_c (a : Option Addr) (n c : Nat) (xs : List Gft) (id : Int) (g : FuncId) (cap : Array Value) (w : World) (hr : Row w a 5 (xs.map encGft)) (hn : xs.length = n) (hm : n ≤ 4611686018427387904) (hb : hasBody Tryz.prog g = true)
    (hf : ∀ (x : Gft) w', E0 w w' → Calls Tryz.prog g (#[].toList ++ [Value.agg (encGft x).toArray] ++ cap.toList).toArray w' fun e w'' => e = .returned (.bool (decide (x.fId = id))) ∧ E0 w' w'') :
    Calls Tryz.prog 76 #[.slice a n c, .func (.func g) #[] cap] w fun e w' => e = .returned (.int .i64 (idAt xs id)) ∧ E0 w w' := by
  refine enterK Non 19 Tryz.func76 rfl rfl rfl fun K hK => ?_
  conv => whnf
  repeat (first | ((with_reducible refine NEXTK.normal ?_); conv => whnf) | ((with_reducible refine NEXTK.exit ?_); conv => whnf) | ((with_reducible refine NEXTK.ret ?_); conv => whnf) | ((with_reducible refine SEQ.plain ?_); conv => whnf) | ((with_reducible refine AR.ok ?_ ?_); exact ⟨by omega, by omega⟩; conv => whnf))
  refine LOOP.mk Nat (fun k => [(8, .v (.int .i64 k))]) (fun k _ => k ≤ n ∧ ∀ j y, j < k → xs[j]? = some y → y.fId ≠ id) (fun k => n - k) 0 rfl ⟨rfl, trivial⟩ ⟨Nat.zero_le _, fun j y hj => by omega⟩ ?_
  rintro k wr ew ⟨hk, hno⟩
  conv => whnf
  repeat (first | ((with_reducible refine NEXTK.normal ?_); conv => whnf) | ((with_reducible refine NEXTK.exit ?_); conv => whnf) | ((with_reducible refine NEXTK.ret ?_); conv => whnf) | ((with_reducible refine SEQ.plain ?_); conv => whnf) | ((with_reducible refine AR.ok ?_ ?_); exact ⟨by omega, by omega⟩; conv => whnf))
  refine BIF.dec (fun hlt => ?_) (fun hlt => ?_)
  · have hlt' : k < xs.length := by omega
    have his := hr.isSome (by simp; omega)
    obtain ⟨x, hx⟩ : ∃ x, xs[k]? = some x := ⟨xs[k]'(by omega), by simp⟩
    repeat (any_goals (
      conv => whnf
      first
      | ((with_reducible refine OBL.mk ?_ (fun _ => ?_)); exact ⟨by omega, by omega, his⟩)
      | ((with_reducible refine ELD.at k hr ?_ rfl hlt' (fun x' hx' => ?_)); exact mAddr_Non _; obtain rfl : x = x' := by (rw [hx] at hx'; exact Option.some.inj hx'))
      | ((with_reducible refine callF (g := g) ?_ ?_); exact hb; refine ⟨_, hf x _ ew, ?_⟩; intro w4 e4)
      | ((with_reducible refine BIF.dec ?_ ?_) <;> intro _)
      | ((with_reducible refine BIF.s ?_ ?_) <;> intro _)
      | (with_reducible refine NEXTK.normal ?_)
      | (with_reducible refine NEXTK.ret ?_)
      | (with_reducible refine NEXTK.exit ?_)
      | (with_reducible refine SEQ.plain ?_)
      | (with_reducible refine hK _ _ ?_)
      | ((with_reducible refine RUNL.agg (fun _ => ?_) ?_); (focus kernel_rfl))
      | (with_reducible refine RUNL.run ?_)
      | ((with_reducible refine AR.ok ?_ ?_); exact ⟨by first | omega | (dsimp only; omega), by first | omega | (dsimp only; omega)⟩)
      | (with_reducible refine AR.wr ?_)
      | ((with_reducible intro w3 e3); try have z3 := cutLe e3)
      | ((with_reducible intro h3); have h4 := Nat.le_of_lt h3; clear h4)))
    · intro hw
      refine ⟨?_, hw⟩
      rw [idAt_hit hx (by simp_all) hno]; rfl
    · refine ⟨k + 1, rfl, ⟨rfl, trivial⟩, rfl, rfl, ⟨by omega, fun j y hj hy => ?_⟩, by omega⟩
      rcases Nat.lt_or_ge j k with h | h
      · exact hno j y h hy
      · obtain rfl : j = k := by omega
        rw [hx] at hy; cases hy; simp_all
  · repeat (any_goals (
      conv => whnf
      first
      | ((with_reducible refine BIF.dec ?_ ?_) <;> intro _)
      | ((with_reducible refine BIF.s ?_ ?_) <;> intro _)
      | (with_reducible refine NEXTK.normal ?_)
      | (with_reducible refine NEXTK.ret ?_)
      | (with_reducible refine NEXTK.exit ?_)
      | (with_reducible refine SEQ.plain ?_)
      | (with_reducible refine hK _ _ ?_)
      | ((with_reducible refine RUNL.agg (fun _ => ?_) ?_); (focus kernel_rfl))
      | (with_reducible refine RUNL.run ?_)
      | ((with_reducible refine AR.ok ?_ ?_); exact ⟨by first | omega | (dsimp only; omega), by first | omega | (dsimp only; omega)⟩)
      | (with_reducible refine AR.wr ?_)
      | ((with_reducible intro w3 e3); try have z3 := cutLe e3)
      | ((with_reducible intro h3); have h4 := Nat.le_of_lt h3; clear h4)))
    intro hw
    refine ⟨?_, hw⟩
    rw [idAt_none (fun j y hy => hno j y (by
      have := (List.getElem?_eq_some_iff.1 hy).1
      omega) hy)]; rfl

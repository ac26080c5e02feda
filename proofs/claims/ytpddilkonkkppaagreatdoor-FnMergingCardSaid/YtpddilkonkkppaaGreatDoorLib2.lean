/- Part 8: calls and elements in the walker's words; lists. -/
import Derived.Test.YtpddilkonkkppaaGreatDoorLib1
namespace Go.X
open Go Go.RowKit

/-- the entry, the end of the walk behind a name of its own. -/
theorem enterK {P : Program} {f : FuncId} {fn : Func} {code : Code} {args : Array Value} {w : World} {R : Ending → World → Prop} (m : Nat → Prop) (N : Nat) (hf : P.funcs[f]? = some fn) (hN : fn.ntmps = N) (hb : fn.body = some code) (hs : Nat.ble args.size N = true)
    (h : ∀ K : Exit → St → Prop, (∀ e S, retK P fn.results.toList m w R e S → K e S) → forceE (initE 0 args.toList) fun E => vc ⟨P, m, w, N, 0⟩ code ⟨E, [], w⟩ K) : Calls P f args w R := by
  subst hN
  exact enter m hf hb hs (h _ fun _ _ x => x)
theorem enterKF {P : Program} {f : FuncId} {fn : Func} {code : Code} {args : Array Value} {w : World} {R : Ending → World → Prop} (m : Nat → Prop) (N : Nat) (hf : P.funcs[f]? = some fn) (hN : fn.ntmps = N) (hb : fn.body = some code) (hs : Nat.ble args.size N = true)
    (h : ∀ K : Exit → St → Prop, (∀ e S, retK P fn.results.toList m w R e S → K e S) → forceE (initE 0 args.toList) fun E => vc ⟨P, m, w, N, 1⟩ code ⟨E, [], w⟩ K) : Calls P f args w R := by
  subst hN
  exact enter m hf hb hs (h _ fun _ _ x => x)
theorem enterKA {P : Program} {f : FuncId} {fn : Func} {code : Code} {args : Array Value} {w : World} {R : Ending → World → Prop} (m : Nat → Prop) (N : Nat) (hf : P.funcs[f]? = some fn) (hN : fn.ntmps = N) (hb : fn.body = some code) (hs : Nat.ble args.size N = true)
    (h : ∀ K : Exit → St → Prop, (∀ e S, retK P fn.results.toList m w R e S → K e S) → forceE (initE 0 args.toList) fun E => vc ⟨P, m, w, N, 2⟩ code ⟨E, [], w⟩ K) : Calls P f args w R := by
  subst hN
  exact enter m hf hb hs (h _ fun _ _ x => x)
theorem callF {c : Ctx} {E : List (Nat × TV)} {B : List Bx} {w : World} {g : FuncId} {args : List Value} {k : Value → World → Prop} (hb : hasBody c.P g = true)
    (h : ∃ r, Calls c.P g args.toArray w (fun e w' => e = .returned r ∧ E0 w w') ∧ ∀ w', E0 w w' → k r w') : CALL c ⟨E, B, w⟩ g args k :=
  CALL.e0 hb fun _ _ => let ⟨r, h1, h2⟩ := h; h1.mono fun _ w' ⟨e, x⟩ => ⟨r, e, x, h2 w' x⟩
/-- .. of a callee that tells more of what it returns. -/
theorem callR {c : Ctx} {E : List (Nat × TV)} {B : List Bx} {w : World} {g : FuncId} {args : List Value} {k : Value → World → Prop} {R : Value → World → Prop} (hb : hasBody c.P g = true)
    (h1 : Calls c.P g args.toArray w (fun e w' => ∃ r, e = .returned r ∧ E0 w w' ∧ R r w')) (h2 : ∀ r w', E0 w w' → R r w' → k r w') : CALL c ⟨E, B, w⟩ g args k :=
  CALL.e0 hb fun _ _ => h1.mono fun _ w' ⟨r, e, x, hr⟩ => ⟨r, e, x, h2 r w' x hr⟩
theorem callX {P : Program} {m : Nat → Prop} {w0 : World} {N : Nat} {fr : Nat} {E : List (Nat × TV)} {B : List Bx} {w : World} {g : FuncId} {args : List Value} {k : Value → World → Prop} (hb : hasBody P g = true)
    (h : Ext m w0 w → ∃ r, Calls P g args.toArray w (fun e w' => e = .returned r ∧ E0 w w') ∧ ∀ w', E0 w w' → k r w') : CALL ⟨P, m, w0, N, fr⟩ ⟨E, B, w⟩ g args k :=
  CALL.e0 hb fun x _ => let ⟨r, h1, h2⟩ := h x; h1.mono fun _ w' ⟨e, x⟩ => ⟨r, e, x, h2 w' x⟩
/-- .. of a callee that tells more of what it returns, to which the rows of the first world are handed. -/
theorem callY {P : Program} {m : Nat → Prop} {w0 : World} {N : Nat} {fr : Nat} {E : List (Nat × TV)} {B : List Bx} {w : World} {g : FuncId} {args : List Value} {k : Value → World → Prop} (hb : hasBody P g = true)
    (h : ∃ R : Value → World → Prop, (Ext m w0 w → Calls P g args.toArray w (fun e w' => ∃ r, e = .returned r ∧ E0 w w' ∧ R r w')) ∧ ∀ r w', E0 w w' → R r w' → k r w') : CALL ⟨P, m, w0, N, fr⟩ ⟨E, B, w⟩ g args k :=
  CALL.e0 hb fun x _ => let ⟨_, h1, h2⟩ := h; (h1 x).mono fun _ w' ⟨r, e, x, hr⟩ => ⟨r, e, x, h2 r w' x hr⟩
/-- a call in a region of open order, the rows of the first world handed on. -/
theorem callQX {P : Program} {m : Nat → Prop} {w0 : World} {N : Nat} {fr : Nat} {E : List (Nat × TV)} {B : List Bx} {w : World} {g : FuncId} {args : List Value} {k : Value → Prop} (hb : hasBody P g = true)
    (h : ∃ r, (∀ w', E0 w w' → Ext m w0 w' → Calls P g args.toArray w' fun e w'' => e = .returned r ∧ E0 w' w'') ∧ k r) : CALLQ ⟨P, m, w0, N, fr⟩ ⟨E, B, w⟩ g args k :=
  let ⟨r, h1, h2⟩ := h; CALLQ.mk hb r (fun w' e x _ => h1 w' e x) h2
theorem callQ {c : Ctx} {E : List (Nat × TV)} {B : List Bx} {w : World} {g : FuncId} {args : List Value} {k : Value → Prop} (hb : hasBody c.P g = true)
    (h : ∃ r, (∀ w', E0 w w' → Calls c.P g args.toArray w' fun e w'' => e = .returned r ∧ E0 w' w'') ∧ k r) : CALLQ c ⟨E, B, w⟩ g args k :=
  let ⟨r, h1, h2⟩ := h; CALLQ.mk hb r (fun w' e _ _ => h1 w' e) h2
/-- 'make'. -/
theorem mkS {c : Ctx} {E : List (Nat × TV)} {B : List Bx} {w : World} {k : Value → World → Prop} {t e : TypeId} {sz by_ : Nat} {z : List Value} (he : ElemT c.P t e sz by_ z) {n : Nat} (hn : by_ * n ≤ 281474976710656 ∧ n < 9223372036854775808)
    (h : ∀ w' cp, E0 w w' → Own w' w.heap.size e sz (.slice (some ⟨w.heap.size, 0, none⟩) n cp) (List.replicate n z) → k (.slice (some ⟨w.heap.size, 0, none⟩) n cp) w') : WOP c ⟨E, B, w⟩ (Instr.makeSlice t (.int .i64 n) (.int .i64 n)) k :=
  WOP.make he hn.1 hn.2 h
theorem stS {c : Ctx} {E : List (Nat × TV)} {B : List Bx} {w : World} {k : Unit → World → Prop} {T e : TypeId} {sz : Nat} {lo : Nat} {a : Option Addr} {n cp : Nat} {ls : List (List Value)} {i : Int} {off q : Nat} {v : Value} {cl : List Value}
    (ho : Own w lo e sz (.slice a n cp) ls) (hT : c.P.cellsOf T = q + 1) (hv : v.cells.size = q + 1) (h1 : allOne v.cells.toList = true) (j : Nat) (hi : (j : Int) = i) (hc : ls[j]? = some cl) (hoff : off + (q + 1) ≤ sz)
    (hlo : c.w0.heap.size ≤ lo) (hn : NotIn (fun k => (Value.slice a n cp).ownBlock = some k) B)
    (h : ∀ w', Ext (fun k => (Value.slice a n cp).ownBlock = some k) w w' → Own w' lo e sz (.slice a n cp) (ls.set j (splice cl off v.cells.toList)) → k () w') :
    WOP c ⟨E, B, w⟩ (Instr.storeAt T (.pointer (a.map fun ad => (ad.add (i.toNat * sz)).add off)) v) k :=
  WOP.store ho hT hv h1 j hi hc hoff (fun k hk hv => by have := (ho.block hv).1; omega) hn h
/-- .. into a block that the call may write. -/
theorem stM {c : Ctx} {E : List (Nat × TV)} {B : List Bx} {w : World} {k : Unit → World → Prop} {T e : TypeId} {sz : Nat} {lo : Nat} {a : Option Addr} {n cp : Nat} {ls : List (List Value)} {i : Int} {off q : Nat} {v : Value} {cl : List Value}
    (ho : Own w lo e sz (.slice a n cp) ls) (hT : c.P.cellsOf T = q + 1) (hv : v.cells.size = q + 1) (h1 : allOne v.cells.toList = true) (j : Nat) (hi : (j : Int) = i) (hc : ls[j]? = some cl) (hoff : off + (q + 1) ≤ sz)
    (hm : ∀ k, (Value.slice a n cp).ownBlock = some k → c.m k) (hn : NotIn (fun k => (Value.slice a n cp).ownBlock = some k) B)
    (h : ∀ w', Ext (fun k => (Value.slice a n cp).ownBlock = some k) w w' → Own w' lo e sz (.slice a n cp) (ls.set j (splice cl off v.cells.toList)) → k () w') :
    WOP c ⟨E, B, w⟩ (Instr.storeAt T (.pointer (a.map fun ad => (ad.add (i.toNat * sz)).add off)) v) k :=
  WOP.store ho hT hv h1 j hi hc hoff (fun k _ hv => hm k hv) hn h
/-- 'append' onto a slice of one's own. -/
theorem apS {c : Ctx} {E : List (Nat × TV)} {B : List Bx} {w : World} {k : Value → World → Prop} {t ty e : TypeId} {sz by_ : Nat} {z : List Value} (he : ElemT c.P t e sz by_ z) {v : Value} {lo : Nat} {ls ns : List (List Value)} {b : Option Addr} {m cp : Nat}
    (ho : Own w lo e sz v ls) (hr : Row w b sz ns) (hm : ns.length = m) (h1 : ∀ l ∈ ns, allOne l = true) (hb : (ls.length + m) * by_ ≤ 140737488355328 ∧ ls.length + m < 9223372036854775808)
    (hlo : c.w0.heap.size ≤ lo ∧ lo ≤ w.heap.size) (hn : NotIn (fun k => v.ownBlock = some k) B)
    (h : ∀ v' w', Ext (fun k => v.ownBlock = some k) w w' → Own w' lo e sz v' (ls ++ ns) → k v' w') : WOP c ⟨E, B, w⟩ (Builtin.append_ #[t, t] ty #[v, .slice b m cp]) k :=
  WOP.append he ho hr hm h1 hb.1 hb.2 hlo.1 hlo.2 hn h
theorem cutLe {w w' : World} {m : Nat → Prop} (e : Ext m w w') : w.heap.size ≤ w'.heap.size := e.size
theorem ELD.ix {α : Type} {m : Nat → Prop} {w0 w : World} {a : Option Addr} {sz : Nat} {i : Int} {g : List Value → Prop} {xs : List α} {enc : α → List Value} (h : Row w0 a sz (xs.map enc)) (hm : ¬ mAddr m a)
    (h0 : 0 ≤ i) (h1 : i < xs.length) (hg : ∀ x, (∀ j : Nat, (j : Int) = i → xs[j]? = some x) → g (enc x)) : ELD m w0 w a sz i g := by
  have hlt : i.toNat < xs.length := by omega
  refine ELD.old _ (enc xs[i.toNat]) h hm (by simp [hlt]) (hg _ fun j hj => ?_)
  obtain rfl : j = i.toNat := by omega
  simp [hlt]
theorem ELD.at {α : Type} {m : Nat → Prop} {w0 w : World} {a : Option Addr} {sz : Nat} {i : Int} {g : List Value → Prop} {xs : List α} {enc : α → List Value} (j : Nat) (h : Row w0 a sz (xs.map enc)) (hm : ¬ mAddr m a)
    (hi : (j : Int) = i) (hj : j < xs.length) (hg : ∀ x, xs[j]? = some x → g (enc x)) : ELD m w0 w a sz i g := by
  subst hi
  exact ELD.old _ (enc xs[j]) h hm (by simp [hj]) (hg _ (by simp [hj]))
theorem ELD.atNow {α : Type} {m : Nat → Prop} {w0 w : World} {a : Option Addr} {sz : Nat} {i : Int} {g : List Value → Prop} {xs : List α} {enc : α → List Value} (j : Nat) (h : Row w a sz (xs.map enc))
    (hi : (j : Int) = i) (hj : j < xs.length) (hg : ∀ x, xs[j]? = some x → g (enc x)) : ELD m w0 w a sz i g := by
  subst hi
  exact ELD.now _ (enc xs[j]) h (by simp [hj]) (hg _ (by simp [hj]))
theorem splice_all {l cs : List Value} (h : cs.length = l.length) : splice l 0 cs = cs := by
  simp [splice, h]
theorem fill_set {α : Type} {xs : List α} {enc : α → List Value} {z : List Value} {k : Nat} {x : α} (hx : xs[k]? = some x) (hl : (enc x).length = z.length) :
    ((xs.take k).map enc ++ List.replicate (xs.length - k) z).set k (splice z 0 (enc x)) = (xs.take (k + 1)).map enc ++ List.replicate (xs.length - (k + 1)) z := by
  have hk : k < xs.length := by
    rcases Nat.lt_or_ge k xs.length with h | h
    · exact h
    · rw [List.getElem?_eq_none h] at hx; cases hx
  rw [splice_all hl, List.take_add_one, hx]
  rw [List.set_append_right _ _ (by simp; omega)]
  have e : xs.length - k = (xs.length - (k + 1)) + 1 := by omega
  have e2 : k - ((xs.take k).map enc).length = 0 := by simp; omega
  rw [e2, e, List.replicate_succ]
  simp
theorem fill_own {α : Type} {xs : List α} {enc : α → List Value} {z cs : List Value} {k : Nat} {x : α} {w : World} {lo : Nat} {e : TypeId} {sz : Nat} {v : Value}
    (h : Own w lo e sz v (((xs.take k).map enc ++ List.replicate (xs.length - k) z).set k (splice z 0 cs))) (hx : xs[k]? = some x) (hc : cs = enc x) (hl : (enc x).length = z.length) :
    Own w lo e sz v ((xs.take (k + 1)).map enc ++ List.replicate (xs.length - (k + 1)) z) := by
  rw [hc, fill_set hx hl] at h; exact h
theorem fill_get {α : Type} {xs : List α} {enc : α → List Value} {z : List Value} {k : Nat} (hk : k < xs.length) :
    ((xs.take k).map enc ++ List.replicate (xs.length - k) z)[k]? = some z := by
  rw [List.getElem?_append_right (by simp; omega)]
  simp only [List.length_map, List.length_take, List.getElem?_replicate]
  rw [if_pos (by omega)]
theorem fill_all {α : Type} (xs : List α) (enc : α → List Value) (z : List Value) : (xs.take xs.length).map enc ++ List.replicate (xs.length - xs.length) z = xs.map enc := by simp
theorem Own.rowx {w : World} {lo : Nat} {e : TypeId} {sz : Nat} {v : Value} {α : Type} {xs : List α} {enc : α → List Value} (h : Own w lo e sz v (xs.map enc)) : ∃ a c, v = .slice a xs.length c ∧ Row w a sz (xs.map enc) ∧ xs.length ≤ c ∧ c < 9223372036854775808 := by
  obtain ⟨a, c, rfl, hr⟩ := h.form
  refine ⟨a, c, by simp, hr, ?_⟩
  obtain ⟨⟨h1, h2⟩, hw⟩ := h
  rcases h2 with ⟨h2, h3⟩ | ⟨g, cap, cur, h2, hg, hh, hn, hmm, hs, ht⟩
  · have : xs = [] := by simpa using h3
    subst this
    simp only [Value.slice.injEq] at h2
    obtain ⟨-, -, rfl⟩ := h2
    simp
  · simp only [Value.slice.injEq] at h2
    obtain ⟨rfl, h3, rfl⟩ := h2
    simp only [maxLen] at hmm
    refine ⟨by simpa using hn, by omega⟩
/-- a part of a slice. -/
theorem Row.sub {w : World} {a : Option Addr} {sz : Nat} {α : Type} {xs : List α} {enc : α → List Value} (h : Row w a sz (xs.map enc)) (l hi q : Int) (h1 : hi ≤ q) :
    Row w (if q.toNat = l.toNat then a else a.map (·.add (l.toNat * sz))) sz (((xs.drop l.toNat).take (hi.toNat - l.toNat)).map enc) := by
  intro i c hc
  rw [List.getElem?_map, List.getElem?_take] at hc
  by_cases hi' : i < hi.toNat - l.toNat
  · rw [if_pos hi', List.getElem?_drop] at hc
    have hc' : (xs.map enc)[l.toNat + i]? = some c := by rw [List.getElem?_map]; exact hc
    obtain ⟨e1, ad, rfl, e2⟩ := h _ _ hc'
    refine ⟨e1, ad.add (l.toNat * sz), ?_, fun j v hv => ?_⟩
    · rw [if_neg (by omega)]; rfl
    · have := e2 j v hv
      rw [Addr.add_add, Addr.add_add] at *
      rw [Nat.add_mul] at this
      simpa [Nat.add_assoc] using this
  · rw [if_neg hi'] at hc; simp at hc
/-- a box, as a row of one element. -/
theorem Boxes.row {E : List (Nat × TV)} {B : List Bx} {w : World} (h : Boxes ⟨E, B, w⟩) (i : Nat) (blk : Nat) (cs : List Value) (ty : TypeId) (hb : B[i]? = some ⟨blk, cs, ty⟩) : Row w (some ⟨blk, 0, none⟩) cs.length [cs] := by
  have hi : i < B.length := by
    rcases Nat.lt_or_ge i B.length with h | h
    · exact h
    · rw [List.getElem?_eq_none h] at hb; cases hb
  have hbk : bk B i = ⟨blk, cs, ty⟩ := by
    clear h
    induction B generalizing i with
    | nil => simp at hb
    | cons b r ih => cases i with
      | zero => simp at hb; subst hb; rfl
      | succ i => exact ih i (by simpa using hb) (by simpa using hi)
  have hh := h i hi
  rw [hbk] at hh
  intro j c hc
  cases j with
  | succ j => simp at hc
  | zero =>
    simp only [List.getElem?_cons_zero, Option.some.injEq] at hc
    subst hc
    refine ⟨rfl, _, rfl, fun q v hv => ?_⟩
    rw [Addr.add_add, Addr.add_lit]
    simp [World.cell?, hh, hv]
theorem callB {P : Program} {m : Nat → Prop} {w0 : World} {N : Nat} {fr : Nat} {E : List (Nat × TV)} {B : List Bx} {w : World} {g : FuncId} {args : List Value} {k : Value → World → Prop} (hb : hasBody P g = true)
    (h : Boxes ⟨E, B, w⟩ → ∃ r, Calls P g args.toArray w (fun e w' => e = .returned r ∧ E0 w w') ∧ ∀ w', E0 w w' → k r w') : CALL ⟨P, m, w0, N, fr⟩ ⟨E, B, w⟩ g args k :=
  CALL.e0 hb fun _ x => let ⟨r, h1, h2⟩ := h x; h1.mono fun _ w' ⟨e, x⟩ => ⟨r, e, x, h2 w' x⟩
theorem callXB {P : Program} {m : Nat → Prop} {w0 : World} {N : Nat} {fr : Nat} {E : List (Nat × TV)} {B : List Bx} {w : World} {g : FuncId} {args : List Value} {k : Value → World → Prop} (hb : hasBody P g = true)
    (h : Ext m w0 w → Boxes ⟨E, B, w⟩ → ∃ r, Calls P g args.toArray w (fun e w' => e = .returned r ∧ E0 w w') ∧ ∀ w', E0 w w' → k r w') : CALL ⟨P, m, w0, N, fr⟩ ⟨E, B, w⟩ g args k :=
  CALL.e0 hb fun x0 x => let ⟨r, h1, h2⟩ := h x0 x; h1.mono fun _ w' ⟨e, x⟩ => ⟨r, e, x, h2 w' x⟩
/-! ### the first element of a kind -/
def idxP {α : Type} (p : α → Bool) (xs : List α) : Int :=
  match xs.findIdx? p with
  | some k => k
  | none => -1
theorem idxP_hit {α : Type} {p : α → Bool} {xs : List α} {k : Nat} {x : α} (hx : xs[k]? = some x) (hid : p x = true) (hno : ∀ j y, j < k → xs[j]? = some y → p y = false) : idxP p xs = k := by
  obtain ⟨hk, hx⟩ := List.getElem?_eq_some_iff.1 hx
  have : xs.findIdx? p = some k := by
    rw [List.findIdx?_eq_some_iff_getElem]
    refine ⟨hk, by simp [hx, hid], fun j hj => ?_⟩
    simpa using hno j _ hj (List.getElem?_eq_getElem (by omega))
  simp [idxP, this]
theorem idxP_none {α : Type} {p : α → Bool} {xs : List α} (hno : ∀ (j : Nat) y, xs[j]? = some y → p y = false) : idxP p xs = -1 := by
  have : xs.findIdx? p = none := by
    rw [List.findIdx?_eq_none_iff]
    intro x hx
    obtain ⟨j, hj⟩ := List.getElem?_of_mem hx
    simpa using hno j x hj
  simp [idxP, this]
theorem idxP_spec {α : Type} (p : α → Bool) (xs : List α) : (idxP p xs = -1 ∧ ∀ x ∈ xs, p x = false) ∨ ∃ (k : Nat) (x : α), idxP p xs = k ∧ k < xs.length ∧ xs[k]? = some x ∧ p x = true ∧ ∀ j y, j < k → xs[j]? = some y → p y = false := by
  cases h : xs.findIdx? p with
  | none =>
    left
    refine ⟨by simp [idxP, h], ?_⟩
    rw [List.findIdx?_eq_none_iff] at h
    exact h
  | some k =>
    right
    rw [List.findIdx?_eq_some_iff_getElem] at h
    obtain ⟨hk, hp, hn⟩ := h
    refine ⟨k, xs[k], ?_, hk, List.getElem?_eq_getElem hk, by simpa using hp, fun j y hj hy => ?_⟩
    · simp [idxP, List.findIdx?_eq_some_iff_getElem.2 ⟨hk, hp, hn⟩]
    · have := hn j hj
      rw [List.getElem?_eq_getElem (by omega)] at hy
      cases hy
      simpa using this
theorem idxP_any {α : Type} (p : α → Bool) (xs : List α) : decide (0 ≤ idxP p xs) = xs.any p := by
  rcases idxP_spec p xs with ⟨h, hn⟩ | ⟨k, x, h, hk, hx, hp, -⟩
  · rw [h]
    have : xs.any p = false := by rw [List.any_eq_false]; intro x hx; simp [hn x hx]
    rw [this]; rfl
  · rw [h]
    have : xs.any p = true := by rw [List.any_eq_true]; exact ⟨x, List.mem_of_getElem? hx, hp⟩
    rw [this]; simp
/-! ### what is written one element after the other -/
theorem mark_set {α : Type} (mk : Nat → α) (xs : List α) (enc : α → List Value) (j : Nat) (hj : j < xs.length) :
    (((List.range j).map mk ++ xs.drop j).map enc).set j (enc (mk j)) = ((List.range (j + 1)).map mk ++ xs.drop (j + 1)).map enc := by
  rw [List.drop_eq_getElem_cons hj, List.range_succ]
  simp only [List.map_append, List.map_cons]
  rw [List.set_append_right _ _ (by simp)]
  simp
theorem mark_get {α : Type} (mk : Nat → α) {xs : List α} (enc : α → List Value) {j : Nat} {x : α} (hx : xs[j]? = some x) :
    (((List.range j).map mk ++ xs.drop j).map enc)[j]? = some (enc x) := by
  rw [List.getElem?_map, List.getElem?_append_right (by simp)]
  simp [hx]
theorem mark_all {α : Type} (mk : Nat → α) (xs : List α) (n : Nat) (h : xs.length = n) : (List.range n).map mk ++ xs.drop n = (List.range n).map mk := by
  rw [List.drop_eq_nil_of_le (by omega)]; simp
theorem set_get {α : Type} {ls : List α} {j : Nat} {c d : α} (h : ls[j]? = some c) : (ls.set j d)[j]? = some d := by
  have : j < ls.length := by
    rcases Nat.lt_or_ge j ls.length with h' | h'
    · exact h'
    · rw [List.getElem?_eq_none h'] at h; cases h
  simp [this]
/-- a call that may write blocks of the caller's own making. -/
theorem callM {P : Program} {m : Nat → Prop} {w0 : World} {N : Nat} {fr : Nat} {E : List (Nat × TV)} {B : List Bx} {w : World} {g : FuncId} {args : List Value} {k : Value → World → Prop} (hb : hasBody P g = true)
    (h : ∃ (mm : Nat → Prop) (R : Value → World → Prop), NotIn mm B ∧ (∀ b, b < w0.heap.size → mm b → m b) ∧ Calls P g args.toArray w (fun e w' => ∃ r, e = .returned r ∧ Ext mm w w' ∧ R r w') ∧ ∀ r w', Ext mm w w' → R r w' → k r w') : CALL ⟨P, m, w0, N, fr⟩ ⟨E, B, w⟩ g args k := by
  obtain ⟨mm, R, h1, h2, h3, h4⟩ := h
  exact CALL.mut mm hb h1 h2 fun _ _ => h3.mono fun _ w' ⟨r, e, x, hr⟩ => ⟨r, e, x, h4 r w' x hr⟩
end Go.X

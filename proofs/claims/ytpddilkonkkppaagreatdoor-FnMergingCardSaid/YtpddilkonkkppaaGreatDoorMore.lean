/- Part 13: more of calls. -/
import Derived.Test.YtpddilkonkkppaaGreatDoorText0
namespace Go.X
open Go Go.RowKit
/-- a call that may write, to which the first world's extension is handed. -/
theorem callMX {P : Program} {m : Nat → Prop} {w0 : World} {N : Nat} {fr : Nat} {E : List (Nat × TV)} {B : List Bx} {w : World} {g : FuncId} {args : List Value} {k : Value → World → Prop} (hb : hasBody P g = true)
    (h : ∃ (mm : Nat → Prop) (R : Value → World → Prop), NotIn mm B ∧ (∀ b, b < w0.heap.size → mm b → m b) ∧ (Ext m w0 w → Calls P g args.toArray w (fun e w' => ∃ r, e = .returned r ∧ Ext mm w w' ∧ R r w')) ∧ ∀ r w', Ext mm w w' → R r w' → k r w') : CALL ⟨P, m, w0, N, fr⟩ ⟨E, B, w⟩ g args k := by
  obtain ⟨mm, R, h1, h2, h3, h4⟩ := h
  exact CALL.mut mm hb h1 h2 fun hx _ => (h3 hx).mono fun _ w' ⟨r, e, x, hr⟩ => ⟨r, e, x, h4 r w' x hr⟩
theorem rowOff {w : World} {b : Nat} {a : Option Addr} {n sz : Nat} {α : Type} {xs : List α} {enc : α → List Value} (h : Row w a sz (xs.map enc)) (hn : xs.length = n) (ha : n = 0 ∨ ¬ mAddr (onB b) a) {w' : World} (x : Ext (onB b) w w') : Row w' a sz (xs.map enc) := by
  rcases ha with h0 | h0
  · have : xs = [] := List.eq_nil_of_length_eq_zero (by omega)
    rw [this]; exact Row.nil _ _ _
  · exact h.ext x h0
theorem RUNL.two {a b : Value} {run : World → Result Next} {k : Value → Prop} (h : ∀ w, run w = .ok (.value (.agg #[a, b, .int .i64 0])) w) (hk : k (.agg #[a, b, .int .i64 0])) : RUNL [a, b] run k := ⟨RUN.mk h hk⟩
theorem WOP.x {α : Type} {c : Ctx} {S : St} {run : Sem α} {k : α → World → Prop} (h : Ext c.m c.w0 S.w → WOP c S run k) : WOP c S run k := by
  unfold WOP
  intro hx hb
  exact (h hx).elim hx hb
/-- a truth that a walk holds, however it is written. -/
def TB (t : TV) (b : Bool) : Prop := (t = .tt ∧ b = true) ∨ (t = .ff ∧ b = false) ∨ t = .v (.bool b)
theorem Own.newb {w w' : World} {v : Value} {T : TypeId} (x : Newb w w' [v] T) : Own w' w.heap.size T 1 (.slice (some ⟨w.heap.size, 0, none⟩) 1 1) [[v]] :=
  ⟨⟨rfl, .inr ⟨w.heap.size, 1, #[v], rfl, Nat.le_refl _, x.heap, Nat.le_refl _, by decide, rfl, rfl⟩⟩, by intro l hl; rw [List.mem_singleton] at hl; subst hl; rfl⟩
/-- a store into a box of one cell that a plain pointer holds. -/
theorem stP {c : Ctx} {E : List (Nat × TV)} {B : List Bx} {w : World} {k : Unit → World → Prop} {T : TypeId} {lo blk : Nat} {v u : Value}
    (ho : Own w lo T 1 (.slice (some ⟨blk, 0, none⟩) 1 1) [[u]]) (hT : c.P.cellsOf T = 1) (hv : v.cells = #[v]) (h1 : allOne [v] = true) (hlo : c.w0.heap.size ≤ lo) (hn : NotIn (fun k => k = blk) B)
    (h : ∀ w', Ext (fun k => k = blk) w w' → Own w' lo T 1 (.slice (some ⟨blk, 0, none⟩) 1 1) [[v]] → k () w') : WOP c ⟨E, B, w⟩ (Instr.storeAt T (.pointer (some ⟨blk, 0, none⟩)) v) k := by
  have eb : (fun k => (Value.slice (some ⟨blk, 0, none⟩) 1 1).ownBlock = some k) = (fun k => k = blk) := by
    funext k
    exact propext ⟨fun h => (Option.some.inj h).symm, fun h => congrArg some h.symm⟩
  have := stS (c := c) (E := E) (B := B) (w := w) (k := k) (T := T) (e := T) (sz := 1) (lo := lo) (a := some ⟨blk, 0, none⟩) (n := 1) (cp := 1) (ls := [[u]]) (i := 0) (off := 0) (q := 0) (v := v) (cl := [u]) ho hT (by rw [hv]; rfl) (by rw [hv]; exact h1) 0 rfl rfl (by decide) hlo (by rw [eb]; exact hn)
    (fun w' x o => h w' (by rw [eb] at x; exact x) (by rw [hv] at o; exact o))
  simpa [Addr.add_lit] using this
theorem wrap8_in {z : Int} (h1 : 0 ≤ z) (h2 : z ≤ 255) : IntKind.u8.wrap z = z := by
  exact IntWalk.u8_in z ⟨h1, h2⟩
theorem callMXB {P : Program} {m : Nat → Prop} {w0 : World} {N : Nat} {fr : Nat} {E : List (Nat × TV)} {B : List Bx} {w : World} {g : FuncId} {args : List Value} {k : Value → World → Prop} (hb : hasBody P g = true)
    (h : ∃ (mm : Nat → Prop) (R : Value → World → Prop), NotIn mm B ∧ (∀ b, b < w0.heap.size → mm b → m b) ∧ (Ext m w0 w → Boxes ⟨E, B, w⟩ → Calls P g args.toArray w (fun e w' => ∃ r, e = .returned r ∧ Ext mm w w' ∧ R r w')) ∧ ∀ r w', Ext mm w w' → R r w' → k r w') : CALL ⟨P, m, w0, N, fr⟩ ⟨E, B, w⟩ g args k := by
  obtain ⟨mm, R, h1, h2, h3, h4⟩ := h
  exact CALL.mut mm hb h1 h2 fun hx hbx => (h3 hx hbx).mono fun _ w' ⟨r, e, x, hr⟩ => ⟨r, e, x, h4 r w' x hr⟩
end Go.X

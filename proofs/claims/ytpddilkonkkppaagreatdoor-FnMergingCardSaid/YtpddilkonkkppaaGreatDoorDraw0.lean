/- Part 10: a cursor over bytes, held by a plain pointer. -/
import Derived.Test.YtpddilkonkkppaaGreatDoorLib6
namespace Go.X
open Go Go.RowKit

def onB (b : Nat) : Nat → Prop := fun j => j = b
structure Cd where
  a : Option Addr
  n : Nat
  c : Nat
  bs : List Int
structure Cur (T : TypeId) (w : World) (b : Nat) (cd : Cd) (k : Int) : Prop where
  row : Row w cd.a 1 (cd.bs.map encB)
  len : cd.bs.length = cd.n
  small : cd.n ≤ 65536
  byte : ∀ x ∈ cd.bs, 0 ≤ x ∧ x ≤ 255
  apart : cd.bs = [] ∨ ¬ mAddr (onB b) cd.a
  live : ∃ at_ sd : Int, 0 ≤ at_ ∧ at_ ≤ k ∧ Own w b T 3 (.slice (some ⟨b, 0, none⟩) 1 1) [[.slice cd.a cd.n cd.c, .int .i64 at_, .int .u64 sd]]
theorem ownBlock_cur (b : Nat) : (Value.slice (some ⟨b, 0, none⟩) 1 1).ownBlock = some b := rfl
variable {T : TypeId} {w0 w w' : World} {b : Nat} {cd : Cd} {k k0 : Int}
theorem Cur.lt (h : Cur T w b cd k) : b < w.heap.size := by
  obtain ⟨_, _, _, _, o⟩ := h.live
  exact (o.block rfl).2
theorem Cur.mono (h : Cur T w b cd k) {k' : Int} (hk : k ≤ k') : Cur T w b cd k' :=
  ⟨h.row, h.len, h.small, h.byte, h.apart, let ⟨x, y, h1, h2, h3⟩ := h.live; ⟨x, y, h1, Int.le_trans h2 hk, h3⟩⟩
/-- behind a step that writes none of the blocks of an elder world, in which the cursor was. -/
theorem Cur.past (h : Cur T w b cd k) (h0 : Cur T w0 b cd k0) {m : Nat → Prop} (x : Ext m w w') (hm : ∀ j, j < w0.heap.size → ¬ m j) : Cur T w' b cd k :=
  ⟨Row.past h0.row h.row x hm, h.len, h.small, h.byte, h.apart, let ⟨p, q, h1, h2, h3⟩ := h.live; ⟨p, q, h1, h2, h3.ext x fun j hj => by cases (ownBlock_cur b).symm.trans hj; exact hm b h0.lt⟩⟩
theorem Cur.e0 (h : Cur T w b cd k) (x : E0 w w') : Cur T w' b cd k := h.past h x fun _ _ => id
/-- .. that writes a slice made behind the elder world. -/
theorem Cur.own (h : Cur T w b cd k) (h0 : Cur T w0 b cd k0) {v : Value} (x : Ext (fun j => v.ownBlock = some j) w w') {w1 : World} {lo : Nat} {e : TypeId} {sz : Nat} {ls : List (List Value)} (o : Own w1 lo e sz v ls) (hl : w0.heap.size ≤ lo) : Cur T w' b cd k :=
  h.past h0 x fun j hj hv => o.fresh hl j hj hv
/-- a slice made behind the elder world, past a step of the cursor. -/
theorem Own.cur {v : Value} {lo : Nat} {e : TypeId} {sz : Nat} {ls : List (List Value)} (o : Own w lo e sz v ls) (h0 : Cur T w0 b cd k0) (hl : w0.heap.size ≤ lo) (x : Ext (onB b) w w') : Own w' lo e sz v ls :=
  o.ext x fun j hj e => by have := (o.block hj).1; have := h0.lt; unfold onB at e; omega
/-- the cursor's block written. -/
theorem Cur.set (h : Cur T w b cd k) (x : Ext (onB b) w w') {at_ sd : Int} (o : Own w' b T 3 (.slice (some ⟨b, 0, none⟩) 1 1) [[.slice cd.a cd.n cd.c, .int .i64 at_, .int .u64 sd]]) {k' : Int} (h1 : 0 ≤ at_) (h2 : at_ ≤ k') : Cur T w' b cd k' := by
  refine ⟨?_, h.len, h.small, h.byte, h.apart, at_, sd, h1, h2, o⟩
  rcases h.apart with hb | ha
  · rw [hb]; exact Row.nil _ _ _
  · exact h.row.ext x ha
theorem Ext.onB (x : Ext (fun j => (Value.slice (some ⟨b, 0, none⟩) 1 1).ownBlock = some j) w w') : Ext (X.onB b) w w' := x.mono fun j _ e => (Option.some.inj ((ownBlock_cur b).symm.trans e)).symm
theorem Own.keep {v : Value} {lo : Nat} {e : TypeId} {sz : Nat} {ls : List (List Value)} (o : Own w lo e sz v ls) {m : Nat → Prop} (x : Ext m w w') {n : Nat} (hm : ∀ j, n ≤ j → ¬ m j) (hl : n ≤ lo) : Own w' lo e sz v ls :=
  o.ext x fun j hj => hm j (Nat.le_trans hl (o.block hj).1)
/-- the cursor as it is made. -/
theorem Cur.new {T : TypeId} {w w' : World} {a : Option Addr} {n c : Nat} {bs : List Int} (x : Newb w w' [.slice a n c, .int .i64 0, .int .u64 0] T) (hr : Row w a 1 (bs.map encB)) (hn : bs.length = n) (hs : n ≤ 65536) (hb : ∀ y ∈ bs, 0 ≤ y ∧ y ≤ 255) :
    Cur T w' w.heap.size ⟨a, n, c, bs⟩ 0 := by
  refine ⟨hr.e0 x.ext, hn, hs, hb, ?_, 0, 0, by omega, by omega, ⟨⟨rfl, .inr ⟨w.heap.size, 1, #[.slice a n c, .int .i64 0, .int .u64 0], rfl, Nat.le_refl _, x.heap, Nat.le_refl _, by decide, rfl, rfl⟩⟩, ?_⟩⟩
  · cases bs with
    | nil => exact .inl rfl
    | cons y r =>
      refine .inr ?_
      obtain ⟨-, ad, rfl, h⟩ := hr 0 (encB y) (by simp)
      have h1 := h 0 (.int .u8 y) (by simp [encB])
      have : ad.block < w.heap.size := by
        unfold World.cell? at h1
        cases hb : w.heap[((ad.add (0 * 1)).add 0).block]? with
        | none => rw [hb] at h1; cases h1
        | some o => have := heap_lt hb; rwa [Addr.add_block, Addr.add_block] at this
      intro e
      have e : ad.block = w.heap.size := e
      omega
  · intro l hl
    rw [List.mem_singleton] at hl; subst hl; rfl
/-- a sum whose value does not matter. -/
def I64 (z : Int) : Prop := -9223372036854775808 ≤ z ∧ z ≤ 9223372036854775807
theorem I64.wrap (z : Int) : I64 (IntKind.i64.wrap z) := by
  unfold I64; rw [IntKind.wrap_i64]; omega
theorem AR.fit {z : Int} {p : Int → Prop} (h : ∀ r, I64 r → p r) : AR .i64 z p := ⟨h _ (I64.wrap z)⟩
theorem RUNL.cur {a : Option Addr} {n c : Nat} {run : World → Result Next} {k : Value → Prop} (h : ∀ w, run w = .ok (.value (.agg #[.slice a n c, .int .i64 0, .int .u64 0])) w) (hk : k (.agg #[.slice a n c, .int .i64 0, .int .u64 0])) : RUNL [.slice a n c] run k := ⟨RUN.mk h hk⟩
theorem RUNL.four {a b c d : Value} {run : World → Result Next} {k : Value → Prop} (h : ∀ w, run w = .ok (.value (.agg #[a, b, c, d, .int .i64 0])) w) (hk : k (.agg #[a, b, c, d, .int .i64 0])) : RUNL [a, b, c, d] run k := ⟨RUN.mk h hk⟩
theorem AR.u64 {z : Int} {p : Int → Prop} (h : ∀ r, p r) : AR .u64 z p := ⟨h _⟩
theorem RUN.int {run : World → Result Next} {k : Value → Prop} {kd : IntKind} {z z' : Int} (h : ∀ w, run w = .ok (.value (.int kd z)) w) (e : z = z') (hk : k (.int kd z')) : RUN run k := by subst e; exact RUN.mk h hk
theorem RUN.any {run : World → Result Next} {k : Value → Prop} {kd : IntKind} (z : Int) (h : ∀ w, run w = .ok (.value (.int kd z)) w) (hk : ∀ z, k (.int kd z)) : RUN run k := RUN.mk h (hk _)
end Go.X

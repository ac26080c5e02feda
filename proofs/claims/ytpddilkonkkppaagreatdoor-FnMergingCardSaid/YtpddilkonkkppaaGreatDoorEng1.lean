/- A walk evaluator of our own over the kit's 'wp': part 1: extensions of worlds, symbolic slots, operations that only read. -/
import Derived.WalkKit
import Derived.WalkLawsBesides
import Derived.Deep.Quiet
import Derived.Deep.LoopGhost
namespace Go.X
open Go Go.RowKit

/-! ### Extension of worlds: blocks of the first world, but those in m, are as they were. -/
structure Ext (m : Nat → Prop) (w w' : World) : Prop where
  os : w'.os = w.os
  tape : w'.tape = w.tape
  output : w'.output = w.output
  size : w.heap.size ≤ w'.heap.size
  block : ∀ k, k < w.heap.size → ¬ m k → w'.heap[k]? = w.heap[k]?
def Non : Nat → Prop := fun _ => False
abbrev E0 := Ext Non
theorem Ext.refl (m : Nat → Prop) (w : World) : Ext m w w := ⟨rfl, rfl, rfl, Nat.le_refl _, fun _ _ _ => rfl⟩
theorem Ext.trans {m : Nat → Prop} {a b c : World} (h : Ext m a b) (k : Ext m b c) : Ext m a c :=
  ⟨k.os.trans h.os, k.tape.trans h.tape, k.output.trans h.output, Nat.le_trans h.size k.size, fun i hi hm => (k.block i (Nat.lt_of_lt_of_le hi h.size) hm).trans (h.block i hi hm)⟩
theorem Ext.mono {m m' : Nat → Prop} {a b : World} (h : Ext m a b) (hm : ∀ k, k < a.heap.size → m k → m' k) : Ext m' a b :=
  ⟨h.os, h.tape, h.output, h.size, fun k hk hn => h.block k hk fun x => hn (hm k hk x)⟩
theorem Ext.of0 {m : Nat → Prop} {a b : World} (h : E0 a b) : Ext m a b := h.mono fun _ _ h => h.elim
/-- Behind a step that may write blocks in m', of which those older than a lie in m. -/
theorem Ext.trans' {m m' : Nat → Prop} {a b c : World} (h : Ext m a b) (k : Ext m' b c) (hm : ∀ k, k < a.heap.size → m' k → m k) : Ext m a c :=
  ⟨k.os.trans h.os, k.tape.trans h.tape, k.output.trans h.output, Nat.le_trans h.size k.size, fun i hi hn => (k.block i (Nat.lt_of_lt_of_le hi h.size) fun x => hn (hm i hi x)).trans (h.block i hi hn)⟩
theorem Ext.drawn {m : Nat → Prop} {a b : World} (h : Ext m a b) (n : Nat) : Ext m a { b with drawn := n } := ⟨h.os, h.tape, h.output, h.size, h.block⟩
theorem E0.heap {a b : World} (h : E0 a b) {k : Nat} {o : Obj} (ho : a.heap[k]? = some o) : b.heap[k]? = some o := by
  have hk : k < a.heap.size := by
    rcases Nat.lt_or_ge k a.heap.size with h | h
    · exact h
    · rw [Array.getElem?_eq_none h] at ho; cases ho
  rw [h.block k hk id]; exact ho
theorem Ext.heap {m : Nat → Prop} {a b : World} (h : Ext m a b) {k : Nat} {o : Obj} (ho : a.heap[k]? = some o) (hm : ¬ m k) : b.heap[k]? = some o := by
  have hk : k < a.heap.size := by
    rcases Nat.lt_or_ge k a.heap.size with h | h
    · exact h
    · rw [Array.getElem?_eq_none h] at ho; cases ho
  rw [h.block k hk hm]; exact ho
theorem heap_lt {a : World} {k : Nat} {o : Obj} (ho : a.heap[k]? = some o) : k < a.heap.size := by
  rcases Nat.lt_or_ge k a.heap.size with h | h
  · exact h
  · rw [Array.getElem?_eq_none h] at ho; cases ho
theorem Ext.cell {m : Nat → Prop} {a b : World} (h : Ext m a b) {p : Addr} {v : Value} (hv : a.cell? p = some v) (hm : ¬ m p.block) : b.cell? p = some v := by
  unfold World.cell? at *
  cases hb : a.heap[p.block]? with
  | none => rw [hb] at hv; cases hv
  | some o => rw [hb] at hv; rw [h.heap hb hm]; exact hv
theorem E0.cell {a b : World} (h : E0 a b) {p : Addr} {v : Value} (hv : a.cell? p = some v) : b.cell? p = some v := Ext.cell h hv id
theorem E0.alloc (w : World) (o : Obj) : E0 w (w.alloc o) := ⟨rfl, rfl, rfl, by simp, fun k hk _ => Below.heap_alloc w o k hk⟩
theorem Ext.toBelow {a b : World} (h : E0 a b) : Below a.heap.size a b := ⟨h.os, h.tape, h.output, h.size, fun k hk => h.block k hk id⟩
theorem Ext.ofBelow {a b : World} (h : Below a.heap.size a b) : E0 a b := ⟨h.os, h.tape, h.output, h.size, fun k hk _ => h.block k hk⟩

/-! ### Rows: the elements of a slice, each a list of cells. -/
def Row (w : World) (a : Option Addr) (sz : Nat) (ls : List (List Value)) : Prop :=
  ∀ i c, ls[i]? = some c → c.length = sz ∧ ∃ ad, a = some ad ∧ ∀ j v, c[j]? = some v → w.cell? ((ad.add (i * sz)).add j) = some v
def mAddr (m : Nat → Prop) : Option Addr → Prop
  | some ad => m ad.block
  | none => False
theorem Addr.add_block (a : Addr) (n : Nat) : (a.add n).block = a.block := by unfold Addr.add; split <;> rfl
theorem Addr.add_add (a : Addr) (n m : Nat) : (a.add n).add m = a.add (n + m) := by
  unfold Addr.add
  by_cases hn : n = 0
  · subst hn; simp
  · by_cases hm : m = 0
    · subst hm; simp [hn]
    · simp [hn, hm, Nat.add_assoc]
theorem Row.ext {m : Nat → Prop} {w w' : World} {a : Option Addr} {sz : Nat} {ls : List (List Value)} (h : Row w a sz ls) (e : Ext m w w') (hm : ¬ mAddr m a) : Row w' a sz ls := by
  intro i c hc
  obtain ⟨h1, ad, rfl, h2⟩ := h i c hc
  exact ⟨h1, ad, rfl, fun j v hv => e.cell (h2 j v hv) (by rw [Addr.add_block, Addr.add_block]; exact hm)⟩
theorem mAddr_Non (a : Option Addr) : ¬ mAddr Non a := by cases a <;> exact id
theorem Row.e0 {w w' : World} {a : Option Addr} {sz : Nat} {ls : List (List Value)} (h : Row w a sz ls) (e : E0 w w') : Row w' a sz ls := h.ext e (mAddr_Non a)
theorem Row.nil (w : World) (a : Option Addr) (sz : Nat) : Row w a sz [] := by intro i c hc; simp at hc
theorem Row.isSome {w : World} {a : Option Addr} {sz : Nat} {ls : List (List Value)} (h : Row w a sz ls) (hl : 0 < ls.length) : a.isSome = true := by
  obtain ⟨-, ad, rfl, -⟩ := h 0 ls[0] (by simp [hl]); rfl
/-- What can be read, whatever extension of the current world, for the blocks of the first world that are not written. -/
def RowIn (m : Nat → Prop) (w0 w : World) (a : Option Addr) (sz : Nat) (ls : List (List Value)) : Prop := (Row w0 a sz ls ∧ ¬ mAddr m a) ∨ Row w a sz ls
theorem RowIn.now {m : Nat → Prop} {w0 w : World} {a : Option Addr} {sz : Nat} {ls : List (List Value)} (h : RowIn m w0 w a sz ls) (e : Ext m w0 w) : Row w a sz ls := by
  rcases h with ⟨h, hm⟩ | h
  · exact h.ext e hm
  · exact h

/-! ### Symbolic slots -/
inductive TV where
  | v (x : Value)
  | tt
  | ff
  | bx (i off : Nat)
  | el (a : Option Addr) (i : Int) (sz off : Nat)
  | unk
structure Bx where
  blk : Nat
  cells : List Value
  ty : TypeId
instance : Inhabited Bx := ⟨⟨0, [], 0⟩⟩
structure St where
  E : List (Nat × TV)
  B : List Bx
  w : World
def lk : List (Nat × TV) → Nat → TV
  | [], _ => .unk
  | (j, t) :: r, i => match Nat.beq j i with | true => t | false => lk r i
def bk : List Bx → Nat → Bx
  | [], _ => ⟨0, [], 0⟩
  | b :: _, 0 => b
  | _ :: r, n + 1 => bk r n
def den (B : List Bx) : TV → Value
  | .v x => x
  | .tt => .bool true
  | .ff => .bool false
  | .bx i off => .pointer (some ⟨(bk B i).blk, off, none⟩)
  | .el a i sz off => .pointer (a.map fun ad => (ad.add (i.toNat * sz)).add off)
  | .unk => undef
def ofConst : Value → TV
  | .bool true => .tt
  | .bool false => .ff
  | v => .v v
theorem den_ofConst (B : List Bx) (v : Value) : den B (ofConst v) = v := by
  unfold ofConst
  split <;> rfl
def ev (E : List (Nat × TV)) : Operand → TV
  | .tmp t => lk E t
  | .const c => ofConst c
  | .global g => .v (.pointer (some ⟨g, 0, none⟩))
  | .func f => .v (.func (.func f) #[] #[])
/-- A pointer to an element is never nil; a pointer to a box is to one that there is. -/
def good (B : List Bx) : TV → Prop
  | .el a _ _ _ => a.isSome = true
  | .bx i _ => i < B.length
  | _ => True
theorem good_ofConst (B : List Bx) (v : Value) : good B (ofConst v) := by unfold ofConst; split <;> trivial
/-- The frame reads as E says. -/
def Reads (N : Nat) (E : List (Nat × TV)) (B : List Bx) (a : Act) : Prop := a.defers = [] ∧ a.tmps.size = N ∧ (∀ i, good B (lk E i)) ∧ ∀ i, lk E i ≠ .unk → a.tmps.getD i undef = den B (lk E i)
theorem Reads.eval {N : Nat} {E : List (Nat × TV)} {B : List Bx} {a : Act} (h : Reads N E B a) (x : Operand) (hx : ev E x ≠ .unk) : a.eval x = den B (ev E x) := by
  cases x with
  | tmp t => exact h.2.2.2 t hx
  | const c => simp [Act.eval, ev, den_ofConst]
  | global g => rfl
  | func f => rfl
theorem Reads.good {N : Nat} {E : List (Nat × TV)} {B : List Bx} {a : Act} (h : Reads N E B a) (x : Operand) : good B (ev E x) := by
  cases x with
  | tmp t => exact h.2.2.1 t
  | const c => exact good_ofConst B c
  | global g => trivial
  | func f => trivial
theorem lk_cons (j : Nat) (t : TV) (r : List (Nat × TV)) (i : Nat) : lk ((j, t) :: r) i = if j = i then t else lk r i := by
  simp only [lk]
  by_cases h : j = i
  · subst h; simp
  · have : Nat.beq j i = false := by
      cases hb : Nat.beq j i with
      | false => rfl
      | true => exact absurd (Nat.eq_of_beq_eq_true hb) h
    simp [this, h]
theorem Reads.put {N : Nat} {E : List (Nat × TV)} {B : List Bx} {a : Act} (h : Reads N E B a) (d : Nat) (t : TV) (hd : d < N) (v : Value) (hg : X.good B t) (hv : t ≠ .unk → v = den B t) : Reads N ((d, t) :: E) B (a.put (some d) v) := by
  refine ⟨h.1, by simp [Act.put, h.2.1], fun i => by rw [lk_cons]; split <;> first | exact hg | exact h.2.2.1 i, fun i hi => ?_⟩
  rw [lk_cons] at hi ⊢
  by_cases hdi : d = i
  · subst hdi
    simp only [if_true] at hi ⊢
    rw [← hv hi]
    simp [Act.put, h.2.1, hd]
  · rw [if_neg hdi] at hi ⊢
    rw [← h.2.2.2 i hi]
    simp [Act.put, Array.getD_eq_getD_getElem?, Array.getElem?_setIfInBounds_ne hdi]
theorem Reads.putNone {N : Nat} {E : List (Nat × TV)} {B : List Bx} {a : Act} (h : Reads N E B a) (v : Value) : Reads N E B (a.put none v) := h

/-! ### What a walk leaves to be shown: each behind a name that does not unfold by itself. -/
@[irreducible] def BIF (b : Bool) (p q : Prop) : Prop := (b = true → p) ∧ (b = false → q)
theorem BIF.s {b : Bool} {p q : Prop} (hp : b = true → p) (hq : b = false → q) : BIF b p q := by unfold BIF; exact ⟨hp, hq⟩
theorem BIF.dec {c : Prop} [Decidable c] {p q : Prop} (hp : c → p) (hq : ¬ c → q) : BIF (decide c) p q := by unfold BIF; exact ⟨fun h => hp (of_decide_eq_true h), fun h => hq (of_decide_eq_false h)⟩
theorem BIF.beq {x y : Int} {p q : Prop} (hp : x = y → p) (hq : ¬ x = y → q) : BIF (x == y) p q := by unfold BIF; exact ⟨fun h => hp (by simpa using h), fun h => hq (by simpa using h)⟩
theorem BIF.bne {x y : Int} {p q : Prop} (hp : ¬ x = y → p) (hq : x = y → q) : BIF (x != y) p q := by unfold BIF; exact ⟨fun h => hp (by simpa using h), fun h => hq (by simpa using h)⟩
theorem BIF.not {b : Bool} {p q : Prop} (h : BIF b q p) : BIF (!b) p q := by unfold BIF at *; exact ⟨fun e => h.2 (by simpa using e), fun e => h.1 (by simpa using e)⟩
theorem BIF.elim {b : Bool} {p q : Prop} (h : BIF b p q) : (b = true ∧ p) ∨ (b = false ∧ q) := by
  unfold BIF at h; cases b with
  | true => exact .inl ⟨rfl, h.1 rfl⟩
  | false => exact .inr ⟨rfl, h.2 rfl⟩
@[irreducible] def OBL (o p : Prop) : Prop := o ∧ p
theorem OBL.mk {o p : Prop} (ho : o) (hp : o → p) : OBL o p := by unfold OBL; exact ⟨ho, hp ho⟩
theorem OBL.elim {o p : Prop} (h : OBL o p) : o ∧ p := by unfold OBL at h; exact h
structure AR (k : IntKind) (z : Int) (p : Int → Prop) : Prop where
  out : p (k.wrap z)
theorem AR.wr {k : IntKind} {z : Int} {p : Int → Prop} (h : p (k.wrap z)) : AR k z p := ⟨h⟩
theorem AR.elim {k : IntKind} {z : Int} {p : Int → Prop} (h : AR k z p) : p (k.wrap z) := h.out
theorem wrap64_in {z : Int} (h1 : -9223372036854775808 ≤ z) (h2 : z ≤ 9223372036854775807) : IntKind.i64.wrap z = z := by
  exact IntWalk.i64_in z ⟨h1, h2⟩
theorem wrapU64_in {z : Int} (h1 : 0 ≤ z) (h2 : z ≤ 18446744073709551615) : IntKind.u64.wrap z = z := by
  exact IntWalk.u64_in z ⟨h1, h2⟩
theorem AR.ok {z : Int} {p : Int → Prop} (h : -9223372036854775808 ≤ z ∧ z ≤ 9223372036854775807) (hp : p z) : AR .i64 z p := ⟨by rw [wrap64_in h.1 h.2]; exact hp⟩

end Go.X

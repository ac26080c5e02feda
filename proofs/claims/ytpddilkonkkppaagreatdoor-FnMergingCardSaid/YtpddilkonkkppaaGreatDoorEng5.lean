/- Part 5: regions of fixed order with operations on memory; codes; loops; the entry. -/
import Derived.Test.YtpddilkonkkppaaGreatDoorEng4
namespace Go.X
open Go Go.RowKit

/-! ### an operation on memory: what is to be shown of its run -/
@[irreducible] def WOP {α : Type} (c : Ctx) (S : St) (s : Sem α) (k : α → World → Prop) : Prop :=
  Ext c.m c.w0 S.w → Boxes S → ∃ v w', s.run c.P S.w = .ok v w' ∧ ∃ mm, Ext mm S.w w' ∧ NotIn mm S.B ∧ (∀ k, k < c.w0.heap.size → mm k → c.m k) ∧ k v w'
theorem WOP.mk {α : Type} {c : Ctx} {S : St} {s : Sem α} {k : α → World → Prop} (h : Ext c.m c.w0 S.w → Boxes S → ∃ v w', s.run c.P S.w = .ok v w' ∧ ∃ mm, Ext mm S.w w' ∧ NotIn mm S.B ∧ (∀ k, k < c.w0.heap.size → mm k → c.m k) ∧ k v w') : WOP c S s k := by
  unfold WOP; exact h
theorem WOP.e0 {α : Type} {c : Ctx} {S : St} {s : Sem α} {k : α → World → Prop} (v : α) (w' : World) (h : s.run c.P S.w = .ok v w') (e : E0 S.w w') (hk : k v w') : WOP c S s k := by
  unfold WOP; exact fun _ _ => ⟨v, w', h, Non, e, NotIn.non _, fun _ _ x => x.elim, hk⟩
theorem WOP.elim {α : Type} {c : Ctx} {S : St} {s : Sem α} {k : α → World → Prop} (h : WOP c S s k) (h1 : Ext c.m c.w0 S.w) (h2 : Boxes S) :
    ∃ v w', s.run c.P S.w = .ok v w' ∧ ∃ mm, Ext mm S.w w' ∧ NotIn mm S.B ∧ (∀ k, k < c.w0.heap.size → mm k → c.m k) ∧ k v w' := by
  unfold WOP at h; exact h h1 h2
def snocK : List Bx → Bx → (List Bx → Nat → Prop) → Prop
  | [], b, k => k [b] 0
  | x :: xs, b, k => snocK xs b fun l n => k (x :: l) (n + 1)
theorem snocK_eq (b : Bx) : ∀ (B : List Bx) (k : List Bx → Nat → Prop), snocK B b k = k (B ++ [b]) B.length
  | [], k => rfl
  | x :: xs, k => by simp [snocK, snocK_eq b xs]
def forceC (v : Value) (k : List Value → Prop) : Prop :=
  match v with
  | .agg cs => forceL cs.toList k
  | v => k [v]
theorem forceC_elim {v : Value} {k : List Value → Prop} (h : forceC v k) : k v.cells.toList := by
  unfold forceC at h
  split at h
  · rw [forceL_eq] at h; exact h
  · rename_i hn
    cases v <;> first | exact h | exact absurd rfl (hn _)
/-- a new box. -/
def boxK (N : Nat) (S : St) (cells : List Value) (t : TypeId) (dst : Option Tmp) (K : St → Prop) : Prop :=
  match S with
  | ⟨E, B, w⟩ => ∀ w', E0 w w' → w.heap.size < w'.heap.size → snocK B ⟨w.heap.size, cells, t⟩ fun B n => putK N ⟨E, B, w'⟩ dst (.bx n 0) K
theorem bk_append_lt (B : List Bx) (b : Bx) : ∀ i, i < B.length → bk (B ++ [b]) i = bk B i := by
  induction B with
  | nil => intro i h; simp at h
  | cons x xs ih => intro i h; cases i with
    | zero => rfl
    | succ i => exact ih i (by simpa using h)
theorem bk_append_eq (B : List Bx) (b : Bx) : bk (B ++ [b]) B.length = b := by
  induction B with
  | nil => rfl
  | cons x xs ih => exact ih
theorem den_append {B : List Bx} {b : Bx} {t : TV} (h : good B t) : den (B ++ [b]) t = den B t := by
  cases t <;> first | rfl | (simp only [den]; rw [bk_append_lt _ _ _ h])
theorem boxK_elim {c : Ctx} {S : St} {a : Act} {cells : List Value} {t : TypeId} {dst : Option Tmp} {K : St → Prop} (hk : Ok c S a) (h : boxK c.N S cells t dst K) :
    ∃ S', K S' ∧ Ok c S' (a.put dst (.pointer (some ⟨S.w.heap.size, 0, none⟩))) ∧ S'.w = S.w.alloc (.cells cells.toArray t) := by
  have h : ∀ w', E0 S.w w' → S.w.heap.size < w'.heap.size → snocK S.B ⟨S.w.heap.size, cells, t⟩ fun B n => putK c.N ⟨S.E, B, w'⟩ dst (.bx n 0) K := by
    cases S; exact h
  have h1 := h (S.w.alloc (.cells cells.toArray t)) (E0.alloc _ _) (by simp)
  rw [snocK_eq] at h1
  have e := E0.alloc S.w (.cells cells.toArray t)
  have hlt : ∀ i, i < S.B.length → (bk S.B i).blk < S.w.heap.size := fun i hi => heap_lt (hk.boxes i hi)
  have hb : ∀ i, i < (S.B ++ [(⟨S.w.heap.size, cells, t⟩ : Bx)]).length → i < S.B.length ∨ i = S.B.length := by intro i hi; simp at hi; omega
  have ok' : Ok c ⟨S.E, S.B ++ [⟨S.w.heap.size, cells, t⟩], S.w.alloc (.cells cells.toArray t)⟩ a := by
    refine ⟨hk.reads.congr (by simp) (fun t ht => den_append ht), ?_, ?_, ?_, hk.ext.trans' e (fun _ _ x => x.elim)⟩
    · intro i hi
      rcases hb i hi with h | rfl
      · dsimp only; rw [bk_append_lt _ _ _ h]; exact E0.heap e (hk.boxes i h)
      · dsimp only; rw [bk_append_eq]; exact heap_alloc_new _ _
    · intro i hi
      rcases hb i hi with h | rfl
      · dsimp only; rw [bk_append_lt _ _ _ h]; exact hk.own i h
      · dsimp only; rw [bk_append_eq]; exact hk.ext.size
    · intro i j hi hj hij
      rcases hb i hi with h | rfl <;> rcases hb j hj with h' | rfl
      · dsimp only; rw [bk_append_lt _ _ _ h, bk_append_lt _ _ _ h']; exact hk.apart i j h h' hij
      · dsimp only; rw [bk_append_lt _ _ _ h, bk_append_eq]; have := hlt i h; dsimp only; omega
      · dsimp only; rw [bk_append_lt _ _ _ h', bk_append_eq]; have := hlt j h'; dsimp only; omega
      · exact absurd rfl hij
  obtain ⟨S', h2, h3, h4, _⟩ := putK_elim (c := c) (S := ⟨S.E, S.B ++ [⟨S.w.heap.size, cells, t⟩], S.w.alloc (.cells cells.toArray t)⟩) ok' h1 (.pointer (some ⟨S.w.heap.size, 0, none⟩)) (by show S.B.length < _; simp)
    (fun _ => by show _ = Value.pointer (some ⟨(bk (S.B ++ [_]) S.B.length).blk, 0, none⟩); rw [bk_append_eq])
  exact ⟨S', h2, h3, h4⟩

/-- a new box that is held as a plain pointer. -/
structure Newb (w w' : World) (cells : List Value) (t : TypeId) : Prop where
  ext : E0 w w'
  heap : w'.heap[w.heap.size]? = some (.cells cells.toArray t (0, 0))
  size : w'.heap.size = w.heap.size + 1
def freeK (N : Nat) (S : St) (cells : List Value) (t : TypeId) (dst : Option Tmp) (K : St → Prop) : Prop :=
  match S with
  | ⟨E, B, w⟩ => ∀ w', Newb w w' cells t → putK N ⟨E, B, w'⟩ dst (.v (.pointer (some ⟨w.heap.size, 0, none⟩))) K
theorem freeK_elim {c : Ctx} {S : St} {a : Act} {cells : List Value} {t : TypeId} {dst : Option Tmp} {K : St → Prop} (hk : Ok c S a) (h : freeK c.N S cells t dst K) :
    ∃ S', K S' ∧ Ok c S' (a.put dst (.pointer (some ⟨S.w.heap.size, 0, none⟩))) ∧ S'.w = S.w.alloc (.cells cells.toArray t) := by
  have h : ∀ w', Newb S.w w' cells t → putK c.N ⟨S.E, S.B, w'⟩ dst (.v (.pointer (some ⟨S.w.heap.size, 0, none⟩))) K := by
    cases S; exact h
  have e := E0.alloc S.w (.cells cells.toArray t)
  have h1 := h (S.w.alloc (.cells cells.toArray t)) ⟨e, heap_alloc_new _ _, by simp⟩
  obtain ⟨S', h2, h3, h4, _⟩ := putK_elim (c := c) (S := ⟨S.E, S.B, S.w.alloc (.cells cells.toArray t)⟩) (hk.world0 e) h1 (.pointer (some ⟨S.w.heap.size, 0, none⟩)) trivial (fun _ => rfl)
  exact ⟨S', h2, h3, h4⟩
def isCur : List Value → Bool
  | [x, y, z] => match x with
    | .slice _ _ _ => match z with
      | .int .u64 _ => match y with
        | .int _ _ => true
        | _ => false
      | _ => false
    | _ => false
  | _ => false
def nbK (c : Ctx) (S : St) (cells : List Value) (t : TypeId) (dst : Option Tmp) (K : St → Prop) : Prop :=
  match c.fr with
  | 0 => boxK c.N S cells t dst K
  | 1 => match isCur cells with
    | true => freeK c.N S cells t dst K
    | false => boxK c.N S cells t dst K
  | _ => freeK c.N S cells t dst K
theorem nbK_elim {c : Ctx} {S : St} {a : Act} {cells : List Value} {t : TypeId} {dst : Option Tmp} {K : St → Prop} (hk : Ok c S a) (h : nbK c S cells t dst K) :
    ∃ S', K S' ∧ Ok c S' (a.put dst (.pointer (some ⟨S.w.heap.size, 0, none⟩))) ∧ S'.w = S.w.alloc (.cells cells.toArray t) := by
  unfold nbK at h
  split at h
  · exact boxK_elim hk h
  · split at h
    · exact freeK_elim hk h
    · exact boxK_elim hk h
  · exact freeK_elim hk h
/-- a store into a box. -/
def allOne : List Value → Bool
  | [] => true
  | .agg _ :: _ => false
  | .tuple _ :: _ => false
  | _ :: r => allOne r
theorem allOne_spec : ∀ {l : List Value}, allOne l = true → ∀ v ∈ l, v.oneCell' = true
  | x :: r, h, v, hv => by
    have : x.oneCell' = true ∧ allOne r = true := by cases x <;> first | exact ⟨rfl, h⟩ | cases h
    rcases List.mem_cons.1 hv with rfl | hv
    · exact this.1
    · exact allOne_spec this.2 v hv
def setK : List Bx → Nat → List Value → (List Bx → Prop) → Prop
  | [], _, _, k => k []
  | b :: r, 0, cs, k => match b with | ⟨blk, _, ty⟩ => k (⟨blk, cs, ty⟩ :: r)
  | b :: r, n + 1, cs, k => setK r n cs fun r' => k (b :: r')
theorem setK_eq : ∀ (B : List Bx) (i : Nat) (cs : List Value) (k : List Bx → Prop), setK B i cs k = k (setBk B i cs)
  | [], _, _, _ => rfl
  | ⟨_, _, _⟩ :: _, 0, _, _ => rfl
  | b :: r, n + 1, cs, k => by simp [setK, setBk, setK_eq r]
def storeBxK (P : Program) (N : Nat) (S : St) (t : TypeId) (i off : Nat) (cells : List Value) (dst : Option Tmp) (K : St → Prop) : Prop :=
  match P.cellsOf t with
  | 0 => False
  | n + 1 => match Nat.beq cells.length (n + 1), Nat.ble (off + cells.length) (bk S.B i).cells.length, allOne cells with
    | true, true, true => forceL ((bk S.B i).cells.take off ++ cells ++ (bk S.B i).cells.drop (off + cells.length)) fun cs =>
      match S with
      | ⟨E, B, w⟩ => setK B i cs fun B' => ∀ w', Ext (fun k => k = (bk B i).blk) w w' → putK N ⟨E, B', w'⟩ dst .unk K
    | _, _, _ => False
theorem run_storeVar {P : Program} {w : World} {t : TypeId} {v : Value} {g off n : Nat} {cur : Array Value} {ty : TypeId} (hs : P.cellsOf t = n + 1) (hv : v.cells.size = n + 1) (hg : w.heap[g]? = some (.cells cur ty (0, 0)))
    (hfit : off + v.cells.size ≤ cur.size) (h1 : ∀ u ∈ v.cells.toList, u.oneCell' = true) :
    (storeVar t ⟨g, off, none⟩ v).run P w = .ok () (w.setRow g (cur.toList.take off ++ v.cells.toList ++ cur.toList.drop (off + v.cells.size)).toArray) := by
  have := run_storeCells_at P g off ty v.cells.toList 0 cur w hg (by simpa using hfit) h1
  simp only [Nat.add_zero, Array.length_toList] at this
  simp [storeVar, run_sizeOf hs, hv, this]
theorem setRow_heap' (w : World) (g : Nat) (cur cs : Array Value) (t : TypeId) (hg : w.heap[g]? = some (.cells cur t (0, 0))) : (w.setRow g cs).heap[g]? = some (.cells cs t (0, 0)) := by
  simp [World.setRow, Array.getElem?_modify, hg]
theorem setRow_ext (w : World) (g : Nat) (cs : Array Value) : Ext (fun k => k = g) w (w.setRow g cs) :=
  ⟨rfl, rfl, rfl, by simp [World.setRow], fun k hk hn => by simp only [World.setRow, Array.getElem?_modify]; rw [if_neg (fun e => hn e.symm)]⟩
theorem storeBxK_elim {c : Ctx} {S : St} {a : Act} {t : TypeId} {i off : Nat} {v : Value} {dst : Option Tmp} {K : St → Prop} (hk : Ok c S a) (hi : i < S.B.length) (h : storeBxK c.P c.N S t i off v.cells.toList dst K) :
    ∃ w', (storeVar t ⟨(bk S.B i).blk, off, none⟩ v).run c.P S.w = .ok () w' ∧ ∃ S', K S' ∧ Ok c S' (a.put dst undef) ∧ S'.w = w' := by
  unfold storeBxK at h
  split at h
  · exact h.elim
  · rename_i n hn
    split at h
    · rename_i e1 e2 e3
      have e1 := Nat.eq_of_beq_eq_true e1
      have e2 := Nat.le_of_ble_eq_true e2
      rw [Array.length_toList] at e1 e2
      have hg := hk.boxes i hi
      have hrun := run_storeVar hn e1 hg (by simpa using e2) (allOne_spec e3)
      refine ⟨_, hrun, ?_⟩
      rw [forceL_eq] at h
      have h : ∀ w', Ext (fun k => k = (bk S.B i).blk) S.w w' → putK c.N ⟨S.E, setBk S.B i ((bk S.B i).cells.take off ++ v.cells.toList ++ (bk S.B i).cells.drop (off + v.cells.toList.length)), w'⟩ dst .unk K := by
        cases S; dsimp only at h; rw [setK_eq] at h; exact h
      simp only [Array.length_toList] at h
      generalize hcs : (bk S.B i).cells.take off ++ v.cells.toList ++ (bk S.B i).cells.drop (off + v.cells.size) = cs at h hrun
      have hcs' : ((bk S.B i).cells.toArray.toList.take off ++ v.cells.toList ++ (bk S.B i).cells.toArray.toList.drop (off + v.cells.size)).toArray = cs.toArray := by rw [← hcs]
      rw [hcs'] at *
      have e := setRow_ext S.w (bk S.B i).blk cs.toArray
      have h1 := h _ e
      have ok' : Ok c ⟨S.E, setBk S.B i cs, S.w.setRow (bk S.B i).blk cs.toArray⟩ a := by
        refine ⟨hk.reads.congr (by rw [length_setBk]; exact Nat.le_refl _) (fun t _ => den_setBk _ _ _ t), ?_, ?_, ?_, hk.ext.trans' e (fun k hk' hkm => ?_)⟩
        · intro j (hj : j < (setBk S.B i cs).length)
          show (S.w.setRow (bk S.B i).blk cs.toArray).heap[(bk (setBk S.B i cs) j).blk]? = some (.cells (bk (setBk S.B i cs) j).cells.toArray (bk (setBk S.B i cs) j).ty (0, 0))
          rw [length_setBk] at hj
          by_cases hij : i = j
          · subst hij; rw [bk_setBk_same _ _ _ hi]; exact setRow_heap' _ _ _ _ _ hg
          · rw [bk_setBk_ne _ _ _ _ hij]; exact e.heap (hk.boxes j hj) (fun x => hk.apart i j hi hj hij x.symm)
        · intro j (hj : j < (setBk S.B i cs).length)
          show c.w0.heap.size ≤ (bk (setBk S.B i cs) j).blk
          rw [length_setBk] at hj
          rw [blk_setBk]; exact hk.own j hj
        · intro j l (hj : j < (setBk S.B i cs).length) (hl : l < (setBk S.B i cs).length) hjl
          show (bk (setBk S.B i cs) j).blk ≠ (bk (setBk S.B i cs) l).blk
          rw [length_setBk] at hj hl
          rw [blk_setBk, blk_setBk]; exact hk.apart j l hj hl hjl
        · have := hk.own i hi
          exfalso; omega
      obtain ⟨S', h2, h3, h4, _⟩ := putK_elim (c := c) (S := ⟨S.E, setBk S.B i cs, S.w.setRow (bk S.B i).blk cs.toArray⟩) ok' h1 undef trivial (fun h => absurd rfl h)
      exact ⟨S', h2, h3, h4⟩
    · exact h.elim

/-- the parts of a literal. -/
def partsOf (E : List (Nat × TV)) (B : List Bx) : List (Nat × Operand) → (List (Nat × Value) → Prop) → Prop
  | [], k => k []
  | (i, x) :: xs, k => valOf B (ev E x) fun v => partsOf E B xs fun vs => k ((i, v) :: vs)
theorem partsOf_elim {N : Nat} {E : List (Nat × TV)} {B : List Bx} {a : Act} (hr : Reads N E B a) : ∀ (l : List (Nat × Operand)) (k : List (Nat × Value) → Prop), partsOf E B l k → k (l.map fun p => (p.1, a.eval p.2))
  | [], _, h => h
  | (i, x) :: xs, k, h => by
    obtain ⟨h1, h2⟩ := valOf_elim h
    have := partsOf_elim hr xs _ h2
    simpa [hr.eval x h1] using this
def zeroK (P : Program) (t : TypeId) (k : List Value → Prop) : Prop :=
  match P.info? t with
  | some i => match i.zero with
    | some z => forceC z k
    | none => False
  | none => False
theorem zeroK_elim {P : Program} {t : TypeId} {k : List Value → Prop} (h : zeroK P t k) : ∃ z, (∀ w, (zeroValue t).run P w = .ok z w) ∧ k z.cells.toList := by
  unfold zeroK at h
  split at h
  · rename_i i hi
    split at h
    · rename_i z hz
      exact ⟨z, fun w => by simp [zeroValue, typeInfo, hi, hz], forceC_elim h⟩
    · exact h.elim
  · exact h.elim

/-! ### one operation in a region of fixed order -/
def bsem (b : Builtin) (ats : Array TypeId) (ty : TypeId) (args : Array Value) : Option (Sem Value) :=
  match b with
  | .append => some (Builtin.append_ ats ty args)
  | .copy => some (Builtin.copy_ ats ty args)
  | .clear => some (Builtin.clear_ ats ty args)
  | _ => none
def afterK (c : Ctx) (S : St) (dst : Option Tmp) (K : St → Prop) (v : Value) (w' : World) : Prop := withW S w' fun S => forceV v fun tv => putK c.N S dst tv K
def sstep (c : Ctx) (S : St) (o : Oper) (K : St → Prop) : Prop :=
  match o.op with
  | .call cl => match cl.callee with
    | .value f => callee S f cl.args.toList fun g vs => CALL c S g vs (afterK c S o.dst K)
    | .builtin b => match b with
      | .append => valsOf S.E S.B cl.args.toList fun vs => WOP c S (Builtin.append_ cl.argTypes o.type vs.toArray) (afterK c S o.dst K)
      | .copy => valsOf S.E S.B cl.args.toList fun vs => WOP c S (Builtin.copy_ cl.argTypes o.type vs.toArray) (afterK c S o.dst K)
      | .clear => valsOf S.E S.B cl.args.toList fun vs => WOP c S (Builtin.clear_ cl.argTypes o.type vs.toArray) (afterK c S o.dst K)
      | _ => qop c.P c.m c.w0 S o.op o.type fun tv => putK c.N S o.dst tv K
    | _ => False
  | .box t x => valOf S.B (ev S.E x) fun v => forceC v fun cells => nbK c S cells t o.dst K
  | .alloc t => zeroK c.P t fun cells => nbK c S cells t o.dst K
  | .store t x y => match ev S.E x with
    | .bx i off => valOf S.B (ev S.E y) fun v => forceC v fun cells => storeBxK c.P c.N S t i off cells o.dst K
    | _ => valOf S.B (ev S.E x) fun p => valOf S.B (ev S.E y) fun v => WOP c S (Instr.storeAt t p v) fun _ w' => withW S w' fun S => putK c.N S o.dst .unk K
  | .buildSlice t n ps => partsOf S.E S.B ps.toList fun vs => WOP c S (Instr.buildSlice t n vs.toArray) (afterK c S o.dst K)
  | .makeSlice t l cp => valOf S.B (ev S.E l) fun vl => valOf S.B (ev S.E cp) fun vc => WOP c S (Instr.makeSlice t vl vc) (afterK c S o.dst K)
  | .convert s d x => match isSliceT c.P d || isSliceT c.P s with
    | true => valOf S.B (ev S.E x) fun v => WOP c S (convert s d v) (afterK c S o.dst K)
    | false => qop c.P c.m c.w0 S o.op o.type fun tv => putK c.N S o.dst tv K
  | _ => qop c.P c.m c.w0 S o.op o.type fun tv => putK c.N S o.dst tv K
def vcS (c : Ctx) (ops : List Oper) : List Oper → St → (St → Prop) → Prop
  | [], S, K => K S
  | o :: rest, S, K => guardK ops o S (fun S => sstep c S o fun S => vcS c ops rest S K) (fun S => putK c.N S o.dst (.v undef) fun S => vcS c ops rest S K)
theorem sstep_sound {c : Ctx} {S : St} {a : Act} {o : Oper} {K : St → Prop} {next : Act → World → Prop} {Q : Exit → Act → World → Prop} (hk : Ok c S a) (hn : ∀ S' a', K S' → Ok c S' a' → next a' S'.w) (h : sstep c S o K) :
    o.wp c.P a S.w next Q := by
  have value : ∀ {v : Value} {w' : World}, (execOp a.eval o).run c.P S.w = .ok (.value v) w' → next (a.put o.dst v) w' → o.wp c.P a S.w next Q := by
    intro v w' hr hx; unfold Oper.wp; rw [hr]; exact hx
  have skip : ∀ {w' : World}, (execOp a.eval o).run c.P S.w = .ok .skip w' → next (a.put o.dst undef) w' → o.wp c.P a S.w next Q := by
    intro w' hr hx; unfold Oper.wp; rw [hr]; exact hx
  have pur : (qop c.P c.m c.w0 S o.op o.type fun tv => putK c.N S o.dst tv K) → o.wp c.P a S.w next Q := by
    intro h
    obtain ⟨tv, v, h1, h2, h3, h4⟩ := qop_sound hk.reads hk.boxes hk.ext h
    obtain ⟨S', h5, h6, h7, _⟩ := putK_elim hk h1 v h3 h2
    exact value (h4 _ (.inr (Ext.refl _ _))) (h7 ▸ hn S' _ h5 h6)
  have after : ∀ {v : Value} {w' : World} {mm : Nat → Prop}, Ext mm S.w w' → NotIn mm S.B → (∀ k, k < c.w0.heap.size → mm k → c.m k) → afterK c S o.dst K v w' → next (a.put o.dst v) w' := by
    intro v w' mm e1 e2 e3 h
    unfold afterK at h
    rw [withW_eq] at h
    have h5 := forceV_elim h
    obtain ⟨S', h6, h7, h8, _⟩ := putK_elim (hk.world e1 e2 e3) h5 v trivial (fun _ => rfl)
    have := hn S' _ h6 h7
    rw [h8] at this; exact this
  unfold sstep at h
  split at h
  · rename_i cl ho
    split at h
    · rename_i f hc
      obtain ⟨g, vs, h1, h2⟩ := callee_elim hk ho hc h
      obtain ⟨hb, h3⟩ := CALL.elim h1
      unfold Oper.wp
      rw [h2 hb S.w]
      exact (h3 hk.ext hk.boxes).mono fun e w' ⟨r, e1, mm, e2, e3, e4, e5⟩ => by subst e1; exact after e2 e3 e4 e5
    · rename_i b hc
      have run : ∀ {s : Sem Value} {v : Value} {w' : World}, s.run c.P S.w = .ok v w' → (∀ cs, builtin b cl.argTypes o.type cs (cl.args.map a.eval) = do pure (.value (← s))) →
          (execOp a.eval o).run c.P S.w = .ok (.value v) w' := by
        intro s v w' hr hbb
        simp only [execOp, ho, resolve, hc]
        simp only [Sem.run_bind, Sem.run_pure, Result.andThen_ok, invoke]
        rw [hbb]
        simp [hr]
      have arr : (List.map a.eval cl.args.toList).toArray = cl.args.map a.eval := by apply Array.ext'; simp
      split at h
      · have h1 := valsOf_elim hk.reads _ _ h
        obtain ⟨v, w', h2, mm, e1, e2, e3, h3⟩ := WOP.elim h1 hk.ext hk.boxes
        exact value (run h2 (fun _ => by rw [arr]; rfl)) (after e1 e2 e3 h3)
      · have h1 := valsOf_elim hk.reads _ _ h
        obtain ⟨v, w', h2, mm, e1, e2, e3, h3⟩ := WOP.elim h1 hk.ext hk.boxes
        exact value (run h2 (fun _ => by rw [arr]; rfl)) (after e1 e2 e3 h3)
      · have h1 := valsOf_elim hk.reads _ _ h
        obtain ⟨v, w', h2, mm, e1, e2, e3, h3⟩ := WOP.elim h1 hk.ext hk.boxes
        exact value (run h2 (fun _ => by rw [arr]; rfl)) (after e1 e2 e3 h3)
      · exact pur h
    · exact h.elim
  · rename_i t x ho
    obtain ⟨h1, h2⟩ := valOf_elim h
    have h3 := forceC_elim h2
    obtain ⟨S', h4, h5, h6⟩ := nbK_elim hk h3
    refine value (v := .pointer (some ⟨S.w.heap.size, 0, none⟩)) (w' := S.w.alloc (.cells (den S.B (ev S.E x)).cells t)) ?_ ?_
    · simp [execOp, ho, Instr.box, newVar, newRow, hk.reads.eval x h1]
    · have := hn S' _ h4 h5
      rw [h6] at this
      simpa using this
  · rename_i t ho
    obtain ⟨z, hz, h3⟩ := zeroK_elim h
    obtain ⟨S', h4, h5, h6⟩ := nbK_elim hk h3
    refine value (v := .pointer (some ⟨S.w.heap.size, 0, none⟩)) (w' := S.w.alloc (.cells z.cells t)) ?_ ?_
    · simp [execOp, ho, Instr.alloc, newVar, newRow, hz]
    · have := hn S' _ h4 h5
      rw [h6] at this
      simpa using this
  · rename_i t x y ho
    split at h
    · rename_i i off hx
      obtain ⟨h1, h2⟩ := valOf_elim h
      have h3 := forceC_elim h2
      have hg := hk.reads.good x
      rw [hx] at hg
      obtain ⟨w', h4, S', h5, h6, h7⟩ := storeBxK_elim hk hg h3
      refine skip (w' := w') ?_ (h7 ▸ hn S' _ h5 h6)
      have hxe := hk.reads.eval x (by rw [hx]; simp)
      rw [hx] at hxe
      simp [execOp, ho, hxe, hk.reads.eval y h1, Instr.storeAt, Instr.sureAddr, den] at h4 ⊢
      simp [h4]
    · obtain ⟨h0, h⟩ := valOf_elim h
      obtain ⟨h1, h2⟩ := valOf_elim h
      obtain ⟨v, w', h3, mm, e1, e2, e3, h4⟩ := WOP.elim h2 hk.ext hk.boxes
      rw [withW_eq] at h4
      obtain ⟨S', h6, h7, h8, _⟩ := putK_elim (hk.world e1 e2 e3) h4 undef trivial (fun h => absurd rfl h)
      refine skip (w' := w') ?_ (by have := hn S' _ h6 h7; rw [h8] at this; exact this)
      simp [execOp, ho, hk.reads.eval x h0, hk.reads.eval y h1, h3]
  · rename_i t n ps ho
    have h1 := partsOf_elim hk.reads _ _ h
    obtain ⟨v, w', h2, mm, e1, e2, e3, h3⟩ := WOP.elim h1 hk.ext hk.boxes
    refine value ?_ (after e1 e2 e3 h3)
    have arr : (ps.map fun (i, x) => (i, a.eval x)) = (ps.toList.map fun p => (p.1, a.eval p.2)).toArray := by apply Array.ext'; simp
    simp only [execOp, ho, arr]
    simp [h2]
  · rename_i t l cp ho
    obtain ⟨h0, h⟩ := valOf_elim h
    obtain ⟨h1, h⟩ := valOf_elim h
    obtain ⟨v, w', h2, mm, e1, e2, e3, h3⟩ := WOP.elim h hk.ext hk.boxes
    refine value ?_ (after e1 e2 e3 h3)
    simp [execOp, ho, hk.reads.eval l h0, hk.reads.eval cp h1, h2]
  · rename_i s d x ho
    split at h
    · obtain ⟨h0, h⟩ := valOf_elim h
      obtain ⟨v, w', h2, mm, e1, e2, e3, h3⟩ := WOP.elim h hk.ext hk.boxes
      refine value ?_ (after e1 e2 e3 h3)
      simp [execOp, ho, hk.reads.eval x h0, h2]
    · exact pur h
  · exact pur h
theorem vcS_sound {c : Ctx} {ops : List Oper} {K : St → Prop} {Q : Exit → Act → World → Prop} (hQ : ∀ S a, K S → Ok c S a → Q .normal a S.w) : ∀ (l : List Oper) (S : St) (a : Act), Ok c S a → vcS c ops l S K → wpList c.P ops.toArray Q l a S.w
  | [], S, a, hk, h => hQ S a h hk
  | o :: rest, S, a, hk, h => by
    obtain ⟨S', hk', hw', hB', h⟩ := guardK_elim hk h
    unfold wpList
    rcases h with ⟨hg, h⟩ | ⟨hg, h⟩
    · rw [if_pos hg]
      refine .inl ?_
      rw [← hw']
      exact sstep_sound hk' (fun S2 a2 h2 k2 => vcS_sound hQ rest S2 a2 k2 h2) h
    · rw [hg, if_neg (by simp)]
      obtain ⟨S2, h2, h3, h4, h5⟩ := putK_elim hk' h undef trivial (fun _ => rfl)
      rw [← hw', ← h4]
      exact vcS_sound hQ rest S2 _ h3 h2

end Go.X

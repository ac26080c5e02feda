/- Part 3: one reading operation, evaluated; that the evaluation is sound. -/
import Derived.Test.YtpddilkonkkppaaGreatDoorEng2
namespace Go.X
open Go Go.RowKit

def fldOff (P : Program) (t : TypeId) (f : Nat) (k : Nat → Prop) : Prop :=
  match P.underlying t with
  | some (.struct fs) => match fs[f]? with
    | some ⟨_, ty, off, _, _, _, _⟩ => match P.cellsOf ty with
      | 0 => False
      | _ + 1 => k off
    | none => False
  | _ => False
def bget (s : ByteArray) (n : Nat) : Int := ((s.data[n]?).getD 0).toNat
def optInt (E : List (Nat × TV)) (x : Option Operand) (d : Int) (k : Int → Prop) : Prop :=
  match x with
  | none => k d
  | some x => match ev E x with
    | .v (.int .i64 n) => k n
    | _ => False
def bcall (P : Program) (E : List (Nat × TV)) (b : Builtin) (args : List Operand) (ts : List TypeId) (k : TV → Prop) : Prop :=
  match b, args, ts with
  | .len, [x], t :: _ => match ev E x with
    | .v (.slice _ n _) => match isSliceT P t with | true => k (.v (.int .i64 n)) | false => False
    | .v (.string s) => match P.underlying t with | some .string => k (.v (.int .i64 s.size)) | _ => False
    | _ => False
  | .min, [x, y], _ => match ev E x, ev E y with
    | .v (.int kx a), .v (.int _ b) => k (.v (.int kx (min a b)))
    | _, _ => False
  | .max, [x, y], _ => match ev E x, ev E y with
    | .v (.int kx a), .v (.int _ b) => k (.v (.int kx (max a b)))
    | _, _ => False
  | _, _, _ => False
def loadv (P : Program) (m : Nat → Prop) (w0 : World) (S : St) (t : TypeId) (x : TV) (k : TV → Prop) : Prop :=
  match x with
  | .bx i off => takeT P t ((bk S.B i).cells.drop off) k
  | .el a i sz off => ELD m w0 S.w a sz i fun c => takeT P t (c.drop off) k
  | .v (.pointer (some ad)) => match P.cellsOf t with
    | 0 => False
    | sz + 1 => ELD m w0 S.w (some ad) (sz + 1) 0 fun c => takeT P t c k
  | _ => False
def slicev (P : Program) (E : List (Nat × TV)) (t : TypeId) (x : TV) (lo hi mx : Option Operand) (k : TV → Prop) : Prop :=
  match x with
  | .v (.slice a n c) => match P.underlying t with
    | some (.slice e) => match P.cellsOf e with
      | 0 => False
      | sz + 1 => match mx, hi with
       | some _, none => False
       | _, _ => optInt E mx c fun q => optInt E hi n fun h => optInt E lo 0 fun l =>
        OBL (0 ≤ l ∧ l ≤ h ∧ h ≤ q ∧ q ≤ c) (k (.v (.slice (if q.toNat = l.toNat then a else a.map (·.add (l.toNat * (sz + 1)))) (h.toNat - l.toNat) (q.toNat - l.toNat))))
    | _ => False
  | .v (.string s) => match P.underlying t, mx with
    | some .string, none => optInt E hi s.size fun h => optInt E lo 0 fun l => OBL (0 ≤ l ∧ l ≤ h ∧ h ≤ s.size) (k (.v (.string (s.extract l.toNat h.toNat))))
    | _, _ => False
  | _ => False
def runv (P : Program) (S : St) (op : Op) (ty : TypeId) (k : TV → Prop) : Prop :=
  match allKnown S.E op.operands.toList with
  | true => RUN (fun w => (execOp (fun x => den S.B (ev S.E x)) ⟨none, op, ty, "", #[], none⟩).run P w) fun v => forceV v k
  | false => False
def bldv (P : Program) (S : St) (ps : List (Nat × Operand)) (op : Op) (ty : TypeId) (k : TV → Prop) : Prop :=
  match allKnown S.E op.operands.toList with
  | true => valsOf S.E S.B (ps.map (·.2)) fun vs => RUNL vs (fun w => (execOp (fun x => den S.B (ev S.E x)) ⟨none, op, ty, "", #[], none⟩).run P w) fun v => forceV v k
  | false => False
def qop (P : Program) (m : Nat → Prop) (w0 : World) (S : St) (op : Op) (ty : TypeId) (k : TV → Prop) : Prop :=
  match op with
  | .move x => forceT (ev S.E x) k
  | .assign x => forceT (ev S.E x) k
  | .pick c a b => match ev S.E c with
    | .tt => forceT (ev S.E a) k
    | .ff => forceT (ev S.E b) k
    | .v (.bool b') => BIF b' (forceT (ev S.E a) k) (forceT (ev S.E b) k)
    | _ => False
  | .binOp o t x y _ => match ev S.E x, ev S.E y with
    | .v (.agg a), .v (.agg b) => EQA P t o a b k
    | tx, ty => binv P t o tx ty k
  | .unOp o _ x => match o with
    | .not => match ev S.E x with
      | .tt => k .ff
      | .ff => k .tt
      | .v (.bool b) => k (.v (.bool (!b)))
      | _ => False
    | .neg => match ev S.E x with
      | .v (.int kd a) => AR kd (0 - a) fun r => k (.v (.int kd r))
      | _ => False
    | _ => False
  | .fieldAddr t x f => fldOff P t f fun off => match ev S.E x with
    | .bx i o => k (.bx i (o + off))
    | .el a i sz o => k (.el a i sz (o + off))
    | .v (.pointer (some ad)) => match P.cellsOf t with
      | 0 => False
      | sz + 1 => k (.el (some ad) 0 (sz + 1) off)
    | _ => False
  | .indexAddr t x i => match P.underlying t with
    | some (.slice e) => match P.cellsOf e with
      | 0 => False
      | sz + 1 => match ev S.E x, ev S.E i with
        | .v (.slice a n _), .v (.int _ i) => OBL (0 ≤ i ∧ i < n ∧ a.isSome = true) (k (.el a i (sz + 1) 0))
        | _, _ => False
    | _ => False
  | .index t x i => match P.underlying t with
    | some .string => match ev S.E x, ev S.E i with
      | .v (.string s), .v (.int _ n) => OBL (0 ≤ n ∧ n < s.size) (k (.v (.int .u8 (bget s n.toNat))))
      | _, _ => False
    | _ => runv P S op ty k
  | .load t x => loadv P m w0 S t (ev S.E x) k
  | .extract x i => match ev S.E x with
    | .v (.tuple vs) => match vs[i]? with | some u => k (.v u) | none => False
    | _ => False
  | .call c => match c.callee with
    | .builtin b => bcall P S.E b c.args.toList c.argTypes.toList k
    | _ => False
  | .nilCheck x => match ev S.E x with
    | .bx i o => k (.bx i o)
    | .el a i sz o => k (.el a i sz o)
    | .v (.pointer (some ad)) => k (.v (.pointer (some ad)))
    | .v (.func (.func f) p c) => k (.v (.func (.func f) p c))
    | _ => False
  | .makeFunc fn first cap => match fn, first.toList with
    | .func f, [] => valsOf S.E S.B cap.toList fun vs => k (.v (.func (.func f) #[] vs.toArray))
    | _, _ => False
  | .slice t x lo hi mx => slicev P S.E t (ev S.E x) lo hi mx k
  | .select .. => False
  | .build t ps => bldv P S ps.toList (.build t ps) ty k
  | op => runv P S op ty k

/-! ### soundness -/
/-- the blocks of the boxes hold what is said. -/
def Boxes (S : St) : Prop := ∀ i, i < S.B.length → S.w.heap[(bk S.B i).blk]? = some (.cells (bk S.B i).cells.toArray (bk S.B i).ty (0, 0))
theorem bk_none (B : List Bx) (i : Nat) (h : B.length ≤ i) : bk B i = ⟨0, [], 0⟩ := by
  induction B generalizing i with
  | nil => rfl
  | cons b r ih => cases i with
    | zero => simp at h
    | succ n => exact ih n (by simpa using h)
theorem run_typeInfo {P : Program} {t : TypeId} {n : Nat} (h : P.cellsOf t = n + 1) (w : World) : ∃ i, (typeInfo t).run P w = .ok i w ∧ i.size = n + 1 := by
  unfold Program.cellsOf at h
  cases hi : P.info? t with
  | none => rw [hi] at h; cases h
  | some i => rw [hi] at h; exact ⟨i, by simp [typeInfo, hi], by simpa using h⟩
theorem run_sizeOf {P : Program} {t : TypeId} {n : Nat} (h : P.cellsOf t = n + 1) (w : World) : (sizeOf t).run P w = .ok (n + 1) w := by
  obtain ⟨i, h1, h2⟩ := run_typeInfo h w
  simp [sizeOf, h1, h2]
theorem run_loadCellsFrom {P : Program} {w : World} (a : Addr) : ∀ (n i : Nat) (acc : Array Value) (l : List Value), l.length = n → (∀ j v, l[j]? = some v → w.cell? (a.add (i + j)) = some v) →
    (loadCellsFrom a i n acc).run P w = .ok (acc ++ l.toArray) w
  | 0, i, acc, l, hl, _ => by
    have : l = [] := List.eq_nil_of_length_eq_zero hl
    subst this; simp [loadCellsFrom]
  | n + 1, i, acc, l, hl, h => by
    cases l with
    | nil => cases hl
    | cons x xs =>
      have h0 := h 0 x (by simp)
      simp only [Nat.add_zero] at h0
      have ih := run_loadCellsFrom (P := P) a n (i + 1) (acc.push x) xs (by simpa using hl) (fun j v hv => by have := h (j + 1) v (by simpa using hv); rw [show i + 1 + j = i + (j + 1) from by omega]; exact this)
      simp [loadCellsFrom, h0, ih]
theorem run_loadCells {P : Program} {w : World} (a : Addr) (l : List Value) (h : ∀ j v, l[j]? = some v → w.cell? (a.add j) = some v) : (loadCells a l.length).run P w = .ok l.toArray w := by
  unfold loadCells
  rw [run_loadCellsFrom a l.length 0 #[] l rfl (fun j v hv => by rw [Nat.zero_add]; exact h j v hv)]
  simp
theorem takeT_sound {P : Program} {t : TypeId} {cs : List Value} {k : TV → Prop} (h : takeT P t cs k) :
    ∃ v, k (.v v) ∧ ∀ (w : World) (a : Addr), (∀ j v, cs[j]? = some v → w.cell? (a.add j) = some v) → (loadVar t a).run P w = .ok v w := by
  unfold takeT at h
  have agg : ∀ (hag : ∀ w, (isAgg t).run P w = .ok true w) (h : forceN (P.cellsOf t) cs fun l => k (.v (.agg l.toArray))) (hi : (P.info? t).isSome = true),
      ∃ v, k (.v v) ∧ ∀ (w : World) (a : Addr), (∀ j v, cs[j]? = some v → w.cell? (a.add j) = some v) → (loadVar t a).run P w = .ok v w := by
    intro hag h hi
    obtain ⟨h1, h2⟩ := forceN_elim _ _ _ h
    refine ⟨_, h2, fun w a hc => ?_⟩
    have hs : (sizeOf t).run P w = .ok (P.cellsOf t) w := by
      obtain ⟨i, hi⟩ := Option.isSome_iff_exists.1 hi
      simp [sizeOf, typeInfo, hi, Program.cellsOf]
    have hl := run_loadCells (P := P) (w := w) a (cs.take (P.cellsOf t)) (fun j v hv => by
      rw [List.getElem?_take] at hv
      split at hv
      · exact hc j v hv
      · cases hv)
    rw [List.length_take, Nat.min_eq_left h1] at hl
    simp [loadVar, hag w, hs, hl]
  have info : ∀ d, P.underlying t = some d → (P.info? t).isSome = true := by
    intro d hd
    unfold Program.underlying at hd
    cases hi : P.info? t with
    | none => rw [hi] at hd; cases hd
    | some i => rfl
  split at h
  · rename_i fs hu
    exact agg (fun w => by simp [isAgg, run_underlying hu]) h (info _ hu)
  · rename_i n e hu
    exact agg (fun w => by simp [isAgg, run_underlying hu]) h (info _ hu)
  · rename_i d hs ha hu
    split at h
    · rename_i v rest
      refine ⟨_, h, fun w a hc => ?_⟩
      have h0 := hc 0 v (by simp)
      have : (isAgg t).run P w = .ok false w := by
        cases d <;> first | (simp [isAgg, run_underlying hu]; done) | exact absurd rfl (hs _) | exact absurd rfl (ha _ _)
      simp only [Go.Addr.add, if_true] at h0
      simp [loadVar, this, h0]
    · exact h.elim
  · exact h.elim
theorem fldOff_sound {P : Program} {t : TypeId} {f : Nat} {k : Nat → Prop} (h : fldOff P t f k) :
    ∃ off, k off ∧ ∀ (w : World) (a : Addr), (Instr.fieldAt t (.pointer (some a)) f).run P w = .ok (.pointer (some (a.add off))) w := by
  unfold fldOff at h
  split at h
  · rename_i fs hu
    split at h
    · rename_i nm ty off em tg pk bo hfd
      split at h
      · exact h.elim
      · rename_i n hn
        refine ⟨_, h, fun w a => ?_⟩
        simp [Instr.fieldAt, run_underlying hu, hfd, Instr.sureAddr, fieldPlace, run_sizeOf hn]
    · exact h.elim
  · exact h.elim
theorem optInt_elim {N : Nat} {E : List (Nat × TV)} {B : List Bx} {a : Act} (hr : Reads N E B a) {x : Option Operand} {d : Int} {k : Int → Prop} (h : optInt E x d k) :
    ∃ n, k n ∧ (x = none → n = d) ∧ ∀ o, x = some o → a.eval o = .int .i64 n := by
  unfold optInt at h
  split at h
  · exact ⟨d, h, (fun _ => rfl), (fun o ho => by cases ho)⟩
  · rename_i y
    split at h
    · rename_i n he
      exact ⟨n, h, (fun hx => by cases hx), (fun o ho => by cases ho; rw [hr.eval y (by rw [he]; simp), he]; rfl)⟩
    · exact h.elim

def isLd : Op → Bool
  | .load _ _ => true
  | _ => false
/-- what is shown of one operation: a value, whatever the extension of the world (of no load: whatever the world). -/
def Shown (P : Program) (S : St) (a : Act) (o : Oper) (k : TV → Prop) : Prop :=
  ∃ tv v, k tv ∧ (tv ≠ .unk → v = den S.B tv) ∧ good S.B tv ∧ ∀ w', (isLd o.op = false ∨ E0 S.w w') → (execOp a.eval o).run P w' = .ok (.value v) w'
theorem runv_sound {P : Program} {N : Nat} {S : St} {a : Act} {o : Oper} {k : TV → Prop} (hs : ∀ cs b, o.op ≠ .select cs b) (hr : Reads N S.E S.B a) (h : runv P S o.op o.type k) : Shown P S a o k := by
  unfold runv at h
  split at h
  · rename_i hk
    obtain ⟨v, h1, h2⟩ := RUN.elim h
    have h3 := forceV_elim h2
    refine ⟨.v v, v, h3, fun _ => rfl, trivial, fun w' _ => ?_⟩
    have := execOp_congr (ρ := a.eval) (ρ' := fun x => den S.B (ev S.E x)) o hs (fun x hx => hr.eval x (allKnown_spec hk x (by simpa using hx)))
    rw [this]
    have e : execOp (fun x => den S.B (ev S.E x)) o = execOp (fun x => den S.B (ev S.E x)) ⟨none, o.op, o.type, "", #[], none⟩ := by
      obtain ⟨d, op, ty, pos, af, g⟩ := o
      rfl
    rw [e]; exact h1 w'
  · exact h.elim
theorem bldv_sound {P : Program} {N : Nat} {S : St} {a : Act} {o : Oper} {k : TV → Prop} {ps : List (Nat × Operand)} (hs : ∀ cs b, o.op ≠ .select cs b) (hr : Reads N S.E S.B a) (h : bldv P S ps o.op o.type k) : Shown P S a o k := by
  refine runv_sound hs hr ?_
  unfold bldv at h
  unfold runv
  split at h
  · rename_i hk
    exact (valsOf_elim hr _ _ h).out
  · exact h.elim
theorem bcall_sound {P : Program} {N : Nat} {S : St} {a : Act} {o : Oper} {k : TV → Prop} {c : Call} {b : Builtin} (hr : Reads N S.E S.B a) (ho : o.op = .call c) (hc : c.callee = .builtin b)
    (h : bcall P S.E b c.args.toList c.argTypes.toList k) : Shown P S a o k := by
  obtain ⟨d, op, ty, pos, af, g⟩ := o
  obtain ⟨cal, ⟨args⟩, ⟨ats⟩⟩ := c
  dsimp only at ho hc h
  subst ho hc
  unfold bcall at h
  split at h
  · rename_i x t rest
    split at h
    · rename_i s n cp he
      split at h
      · rename_i ht
        obtain ⟨e, hu⟩ : ∃ e, P.underlying t = some (.slice e) := by unfold isSliceT at ht; split at ht <;> first | exact ⟨_, by assumption⟩ | cases ht
        have hx := hr.eval x (by rw [he]; simp)
        rw [he] at hx
        refine ⟨_, _, h, fun _ => rfl, trivial, fun w' _ => ?_⟩
        simp [execOp, resolve, invoke, builtin, Builtin.len_, run_underlying hu, hx, den, goInt]
      · exact h.elim
    · rename_i s he
      split at h
      · rename_i hu
        have hx := hr.eval x (by rw [he]; simp)
        rw [he] at hx
        refine ⟨_, _, h, fun _ => rfl, trivial, fun w' _ => ?_⟩
        simp [execOp, resolve, invoke, builtin, Builtin.len_, run_underlying hu, hx, den, goInt]
      · exact h.elim
    · exact h.elim
  · rename_i x y
    split at h
    · rename_i kx p ky q e1 e2
      have hx := hr.eval x (by rw [e1]; simp)
      have hy := hr.eval y (by rw [e2]; simp)
      rw [e1] at hx; rw [e2] at hy
      refine ⟨_, _, h, fun _ => rfl, trivial, fun w' _ => ?_⟩
      simp [execOp, resolve, invoke, builtin, Builtin.min_, Builtin.min2, hx, hy, den]
      split <;> omega
    · exact h.elim
  · rename_i x y
    split at h
    · rename_i kx p ky q e1 e2
      have hx := hr.eval x (by rw [e1]; simp)
      have hy := hr.eval y (by rw [e2]; simp)
      rw [e1] at hx; rw [e2] at hy
      refine ⟨_, _, h, fun _ => rfl, trivial, fun w' _ => ?_⟩
      simp [execOp, resolve, invoke, builtin, Builtin.max_, Builtin.max2, hx, hy, den]
      split <;> omega
    · exact h.elim
  · exact h.elim
theorem loadv_sound {P : Program} {m : Nat → Prop} {w0 : World} {N : Nat} {S : St} {a : Act} {o : Oper} {k : TV → Prop} {t : TypeId} {x : Operand} (hr : Reads N S.E S.B a) (hb : Boxes S) (he : Ext m w0 S.w)
    (ho : o.op = .load t x) (h : loadv P m w0 S t (ev S.E x) k) : Shown P S a o k := by
  obtain ⟨d, op, ty, pos, af, g⟩ := o
  dsimp only at ho
  subst ho
  have key : ∀ (p : Addr) (v : Value), a.eval x = .pointer (some p) → k (.v v) → (∀ w', E0 S.w w' → (loadVar t p).run P w' = .ok v w') → Shown P S a ⟨d, .load t x, ty, pos, af, g⟩ k := by
    intro p v hx hk hv
    refine ⟨_, _, hk, fun _ => rfl, trivial, fun w' e => ?_⟩
    have e : E0 S.w w' := e.resolve_left (by simp [isLd])
    simp [execOp, Instr.loadAt, Instr.sureAddr, hx, hv w' e, den]
  unfold loadv at h
  split at h
  · rename_i i off hx
    obtain ⟨v, h1, h2⟩ := takeT_sound h
    refine key ⟨(bk S.B i).blk, off, none⟩ v (by rw [hr.eval x (by rw [hx]; simp), hx]; rfl) h1 fun w' e => h2 w' _ fun j u hu => ?_
    have hi : i < S.B.length := by
      rcases Nat.lt_or_ge i S.B.length with h | h
      · exact h
      · rw [bk_none _ _ h] at hu; simp at hu
    rw [List.getElem?_drop] at hu
    rw [Addr.add_lit]
    have := E0.heap e (hb i hi)
    simp [World.cell?, this, hu]
  · rename_i sa i sz off hx
    obtain ⟨ls, c, h1, h2, h3⟩ := ELD.elim h
    obtain ⟨v, h4, h5⟩ := takeT_sound h3
    have h6 := h1.now he
    obtain ⟨h7, ad, rfl, h8⟩ := h6 _ _ h2
    refine key ((ad.add (i.toNat * sz)).add off) v (by rw [hr.eval x (by rw [hx]; simp), hx]; rfl) h4 fun w' e => h5 w' _ fun j u hu => ?_
    rw [List.getElem?_drop] at hu
    rw [Addr.add_add]
    exact E0.cell e (h8 _ _ hu)
  · rename_i ad hx
    split at h
    · exact h.elim
    rename_i sz hsz
    obtain ⟨ls, c, h1, h2, h3⟩ := ELD.elim h
    obtain ⟨v, h4, h5⟩ := takeT_sound h3
    have h6 := h1.now he
    obtain ⟨h7, ad', e', h8⟩ := h6 _ _ h2
    cases e'
    refine key ad v (by rw [hr.eval x (by rw [hx]; simp), hx]; rfl) h4 fun w' e => h5 w' _ fun j u hu => ?_
    have := h8 _ _ hu
    simp only [Int.toNat_zero, Nat.zero_mul] at this
    rw [show ad.add 0 = ad from by simp [Go.Addr.add]] at this
    exact E0.cell e this
  · exact h.elim

theorem run_bounds {P : Program} {w : World} {b : Bool} {n c : Nat} {lo hi mx : Option Value} {l h q : Int} (hl : (lo = none ∧ l = 0) ∨ lo = some (.int .i64 l)) (hh : (hi = none ∧ h = n) ∨ hi = some (.int .i64 h))
    (hq : (mx = none ∧ q = c) ∨ mx = some (.int .i64 q)) (hx : hi = none → mx = none) (h0 : 0 ≤ l) (h1 : l ≤ h) (h2 : h ≤ q) (h3 : q ≤ c) :
    (Instr.sliceBounds b n c lo hi mx).run P w = .ok (l.toNat, h.toNat, q.toNat) w := by
  have sb : ∀ (i : Int) (y : Nat) code, 0 ≤ i → i ≤ y → (Instr.sliceBound (.int .i64 i) y code).run P w = .ok i.toNat w := fun i y code a b => run_sliceBound w .i64 i y code a b
  have e1 : ∀ code, (Instr.sliceBound (.int .i64 q) c code).run P w = .ok q.toNat w := fun code => sb q c code (by omega) h3
  have e2 : ∀ code, (Instr.sliceBound (.int .i64 h) q.toNat code).run P w = .ok h.toNat w := fun code => sb h _ code (by omega) (by omega)
  have e3 : ∀ code, (Instr.sliceBound (.int .i64 l) h.toNat code).run P w = .ok l.toNat w := fun code => sb l _ code (by omega) (by omega)
  rcases hl with ⟨rfl, rfl⟩ | rfl <;> rcases hh with ⟨rfl, rfl⟩ | rfl <;> rcases hq with ⟨rfl, rfl⟩ | rfl <;> (try simp only [Int.toNat_natCast] at e1 e2 e3) <;> first
    | (simp [Instr.sliceBounds, e1, e2, e3]; done)
    | exact absurd (hx rfl) (by simp)
theorem slicev_sound {P : Program} {N : Nat} {S : St} {a : Act} {o : Oper} {k : TV → Prop} {t : TypeId} {x : Operand} {lo hi mx : Option Operand} (hr : Reads N S.E S.B a)
    (ho : o.op = .slice t x lo hi mx) (h : slicev P S.E t (ev S.E x) lo hi mx k) : Shown P S a o k := by
  obtain ⟨d, op, ty, pos, af, g⟩ := o
  dsimp only at ho
  subst ho
  have opt : ∀ (y : Option Operand) (z d : Int), (y = none → z = d) → (∀ o, y = some o → a.eval o = .int .i64 z) → (y.map a.eval = none ∧ z = d) ∨ y.map a.eval = some (.int .i64 z) := by
    intro y z d h1 h2
    cases y with
    | none => exact .inl ⟨rfl, h1 rfl⟩
    | some o => exact .inr (by simp [h2 o rfl])
  unfold slicev at h
  split at h
  · rename_i s n c hx
    have hxe : a.eval x = .slice s n c := by rw [hr.eval x (by rw [hx]; simp), hx]; rfl
    split at h
    · rename_i e hu
      split at h
      · exact h.elim
      · rename_i sz hsz
        split at h
        · exact h.elim
        · rename_i hnot
          obtain ⟨q, h, q1, q2⟩ := optInt_elim hr h
          obtain ⟨hh, h, p1, p2⟩ := optInt_elim hr h
          obtain ⟨l, h, l1, l2⟩ := optInt_elim hr h
          obtain ⟨⟨b0, b1, b2, b3⟩, h⟩ := OBL.elim h
          have hx : hi.map a.eval = none → mx.map a.eval = none := by
            intro e
            cases hi with
            | some _ => cases e
            | none => cases mx with
              | none => rfl
              | some _ => exact (hnot _ rfl rfl).elim
          refine ⟨_, _, h, fun _ => rfl, trivial, fun w' _ => ?_⟩
          have hb := run_bounds (P := P) (w := w') (b := true) (opt lo l 0 l1 l2) (opt hi hh n p1 p2) (opt mx q c q1 q2) hx b0 b1 b2 b3
          simp [execOp, Instr.sliceAt, Instr.slice, run_underlying hu, hxe, hb, run_sizeOf hsz, den]
    · exact h.elim
  · rename_i s hx
    have hxe : a.eval x = .string s := by rw [hr.eval x (by rw [hx]; simp), hx]; rfl
    split at h
    · rename_i hu
      obtain ⟨hh, h, p1, p2⟩ := optInt_elim hr h
      obtain ⟨l, h, l1, l2⟩ := optInt_elim hr h
      obtain ⟨⟨b0, b1, b2⟩, h⟩ := OBL.elim h
      refine ⟨_, _, h, fun _ => rfl, trivial, fun w' _ => ?_⟩
      have hb := run_bounds (P := P) (w := w') (b := false) (n := s.size) (c := s.size) (mx := none) (opt lo l 0 l1 l2) (opt hi hh s.size p1 p2) (.inl ⟨rfl, rfl⟩) (fun _ => rfl) b0 b1 b2 (Int.le_refl _)
      simp [execOp, Instr.sliceAt, Instr.slice, run_underlying hu, hxe, hb, den]
    · exact h.elim
  · exact h.elim
theorem qop_sound {P : Program} {m : Nat → Prop} {w0 : World} {N : Nat} {S : St} {a : Act} {o : Oper} {k : TV → Prop} (hr : Reads N S.E S.B a) (hb : Boxes S) (he : Ext m w0 S.w)
    (h : qop P m w0 S o.op o.type k) : Shown P S a o k := by
  unfold qop at h
  simp only [forceT_eq] at h
  split at h
  · rename_i x ho
    exact ⟨_, a.eval x, h, fun hn => hr.eval x hn, hr.good x, fun w' _ => by simp [execOp, ho]⟩
  · rename_i x ho
    exact ⟨_, a.eval x, h, fun hn => hr.eval x hn, hr.good x, fun w' _ => by simp [execOp, ho]⟩
  · rename_i c x y ho
    split at h
    · rename_i hc
      have hce := hr.eval c (by rw [hc]; simp)
      rw [hc] at hce
      exact ⟨_, a.eval x, h, fun hn => hr.eval x hn, hr.good x, fun w' _ => by simp [execOp, ho, hce, den, asBool]⟩
    · rename_i hc
      have hce := hr.eval c (by rw [hc]; simp)
      rw [hc] at hce
      exact ⟨_, a.eval y, h, fun hn => hr.eval y hn, hr.good y, fun w' _ => by simp [execOp, ho, hce, den, asBool]⟩
    · rename_i b hc
      have hce := hr.eval c (by rw [hc]; simp)
      rw [hc] at hce
      rcases BIF.elim h with ⟨rfl, h1⟩ | ⟨rfl, h1⟩
      · exact ⟨_, a.eval x, h1, fun hn => hr.eval x hn, hr.good x, fun w' _ => by simp [execOp, ho, hce, den, asBool]⟩
      · exact ⟨_, a.eval y, h1, fun hn => hr.eval y hn, hr.good y, fun w' _ => by simp [execOp, ho, hce, den, asBool]⟩
    · exact h.elim
  · rename_i op t x y ty ho
    split at h
    · rename_i ca cb ea eb
      have hx := hr.eval x (by rw [ea]; simp)
      have hy := hr.eval y (by rw [eb]; simp)
      rw [ea] at hx; rw [eb] at hy
      obtain ⟨hg, r, hrun, hk⟩ := h.out
      have hguard : ∀ w', (eqGuard op t x y (Value.agg ca) (Value.agg cb)).run P w' = .ok () w' := fun w' => run_eqGuard_agg w' op t x y ca cb hg
      cases op <;> simp only [pickB] at hk <;> try exact hk.elim
      · exact ⟨_, _, hk, fun _ => rfl, trivial, fun w' _ => by simp [execOp, ho, hx, hy, den, hguard, run_eql_struct, hrun, Result.andThen]⟩
      · exact ⟨_, _, hk, fun _ => rfl, trivial, fun w' _ => by simp [execOp, ho, hx, hy, den, hguard, run_neq_struct, hrun, Result.andThen]⟩
    obtain ⟨v, h1, h4, h5, hni, hag, h6⟩ := binv_sound (B := S.B) h
    have hx := hr.eval x h4
    have hy := hr.eval y h5
    refine ⟨_, v, h1, fun _ => rfl, trivial, fun w' _ => ?_⟩
    simp only [execOp, ho, hx, hy, eqGuard_skip hni hag]
    simp [h6 w']
  · rename_i op t x ho
    split at h
    · split at h
      · rename_i hx
        have hxe := hr.eval x (by rw [hx]; simp)
        rw [hx] at hxe
        exact ⟨_, _, h, fun _ => rfl, trivial, fun w' _ => by simp [execOp, ho, hxe, den, Op.unary]⟩
      · rename_i hx
        have hxe := hr.eval x (by rw [hx]; simp)
        rw [hx] at hxe
        exact ⟨_, _, h, fun _ => rfl, trivial, fun w' _ => by simp [execOp, ho, hxe, den, Op.unary]⟩
      · rename_i b hx
        have hxe := hr.eval x (by rw [hx]; simp)
        rw [hx] at hxe
        exact ⟨_, _, h, fun _ => rfl, trivial, fun w' _ => by simp [execOp, ho, hxe, den, Op.unary]⟩
      · exact h.elim
    · split at h
      · rename_i kd n hx
        have hxe := hr.eval x (by rw [hx]; simp)
        rw [hx] at hxe
        exact ⟨_, _, h.elim, fun _ => rfl, trivial, fun w' _ => by simp [execOp, ho, hxe, den, Op.unary, Op.intArith]⟩
      · exact h.elim
    · exact h.elim
  · rename_i t x f ho
    obtain ⟨off, h, hf⟩ := fldOff_sound h
    split at h
    · rename_i i o' hx
      have hxe := hr.eval x (by rw [hx]; simp)
      have hg := hr.good x
      rw [hx] at hxe hg
      refine ⟨_, _, h, fun _ => rfl, hg, fun w' _ => ?_⟩
      simp [execOp, ho, hxe, den, hf, Addr.add_lit]
    · rename_i s i sz o' hx
      have hxe := hr.eval x (by rw [hx]; simp)
      have hg := hr.good x
      rw [hx] at hxe hg
      obtain ⟨ad, rfl⟩ := Option.isSome_iff_exists.1 hg
      refine ⟨_, _, h, fun _ => rfl, rfl, fun w' _ => ?_⟩
      simp [execOp, ho, hxe, den, hf, Addr.add_add, Nat.add_assoc]
    · rename_i ad hx
      split at h
      · exact h.elim
      rename_i sz hsz
      have hxe := hr.eval x (by rw [hx]; simp)
      rw [hx] at hxe
      refine ⟨_, _, h, fun _ => rfl, rfl, fun w' _ => ?_⟩
      simp [execOp, ho, hxe, den, hf, Addr.add_add]
    · exact h.elim
  · rename_i t x i ho
    split at h
    · rename_i e hu
      split at h
      · exact h.elim
      · rename_i sz hsz
        split at h
        · rename_i s n cp kd j hx hi
          obtain ⟨⟨h1, h2, h3⟩, h⟩ := OBL.elim h
          have hxe := hr.eval x (by rw [hx]; simp)
          have hie := hr.eval i (by rw [hi]; simp)
          rw [hx] at hxe; rw [hi] at hie
          obtain ⟨ad, rfl⟩ := Option.isSome_iff_exists.1 h3
          refine ⟨_, _, h, fun _ => rfl, rfl, fun w' _ => ?_⟩
          have : ((0 : Int) ≤ j ∧ j < (n : Int)) := ⟨h1, h2⟩
          simp [execOp, ho, hxe, hie, den, Instr.indexAt, asIntOf, run_underlying hu, run_sizeOf hsz, this, Addr.add_add]
        · exact h.elim
    · exact h.elim
  · rename_i t x i ho
    split at h
    · rename_i hu
      split at h
      · rename_i s kd n hx hi
        obtain ⟨⟨h1, h2⟩, h⟩ := OBL.elim h
        have hxe := hr.eval x (by rw [hx]; simp)
        have hie := hr.eval i (by rw [hi]; simp)
        rw [hx] at hxe; rw [hi] at hie
        refine ⟨_, _, h, fun _ => rfl, trivial, fun w' _ => ?_⟩
        have hlt : n.toNat < s.data.size := by have : n.toNat < s.size := by omega
                                               exact this
        have hget : s[n.toNat]? = some s.data[n.toNat] := by
          rw [getElem?_pos s n.toNat hlt]; rfl
        simp [execOp, ho, hxe, hie, den, Instr.index, asIntOf, run_underlying hu, h1, hget, bget, Array.getElem?_eq_getElem hlt]
      · exact h.elim
    · exact runv_sound (fun cs b e => by rw [ho] at e; cases e) hr (ho ▸ h)
  · rename_i t x ho
    exact loadv_sound hr hb he ho h
  · rename_i x i ho
    split at h
    · rename_i vs hx
      split at h
      · rename_i u hv
        have hxe := hr.eval x (by rw [hx]; simp)
        rw [hx] at hxe
        exact ⟨_, _, h, fun _ => rfl, trivial, fun w' _ => by simp [execOp, ho, hxe, den, Instr.extract, hv]⟩
      · exact h.elim
    · exact h.elim
  · rename_i c ho
    split at h
    · rename_i b hc
      exact bcall_sound hr ho hc h
    · exact h.elim
  · rename_i x ho
    split at h
    · rename_i i o' hx
      have hxe := hr.eval x (by rw [hx]; simp)
      have hg := hr.good x
      rw [hx] at hxe hg
      exact ⟨_, _, h, fun _ => rfl, hg, fun w' _ => by simp [execOp, ho, hxe, den]⟩
    · rename_i s i sz o' hx
      have hxe := hr.eval x (by rw [hx]; simp)
      have hg := hr.good x
      rw [hx] at hxe hg
      obtain ⟨ad, rfl⟩ := Option.isSome_iff_exists.1 hg
      exact ⟨_, _, h, fun _ => rfl, rfl, fun w' _ => by simp [execOp, ho, hxe, den]⟩
    · rename_i ad hx
      have hxe := hr.eval x (by rw [hx]; simp)
      rw [hx] at hxe
      exact ⟨_, _, h, fun _ => rfl, trivial, fun w' _ => by simp [execOp, ho, hxe, den]⟩
    · rename_i f p c hx
      have hxe := hr.eval x (by rw [hx]; simp)
      rw [hx] at hxe
      exact ⟨_, _, h, fun _ => rfl, trivial, fun w' _ => by simp [execOp, ho, hxe, den]⟩
    · exact h.elim
  · rename_i fn first cap ho
    split at h
    · rename_i f hf
      have h1 := valsOf_elim hr _ _ h
      refine ⟨_, _, h1, fun _ => rfl, trivial, fun w' _ => ?_⟩
      have hf' : first = #[] := by simpa using hf
      simp [execOp, ho, den, Instr.makeFunc, hf', ← Array.toList_map]
    · exact h.elim
  · rename_i t x lo hi mx ho
    exact slicev_sound hr ho h
  · exact h.elim
  · rename_i t ps ho
    exact bldv_sound (fun cs b e => by rw [ho] at e; cases e) hr (ho ▸ h)
  · rename_i hop
    exact runv_sound (fun cs b e => by simp_all) hr h

end Go.X

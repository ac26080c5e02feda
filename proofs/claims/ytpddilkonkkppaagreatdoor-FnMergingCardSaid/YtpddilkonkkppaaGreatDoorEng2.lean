/- Part 2: operations that only read, evaluated over symbolic slots. -/
import Derived.Test.YtpddilkonkkppaaGreatDoorEng1
import Derived.WalkSpells
import Derived.Lib.SliceRun
namespace Go.X
open Go Go.RowKit

/-! ### barriers of the reading operations -/
@[irreducible] def ELD (m : Nat → Prop) (w0 w : World) (a : Option Addr) (sz : Nat) (i : Int) (g : List Value → Prop) : Prop :=
  ∃ ls c, RowIn m w0 w a sz ls ∧ ls[i.toNat]? = some c ∧ g c
theorem ELD.old {m : Nat → Prop} {w0 w : World} {a : Option Addr} {sz : Nat} {i : Int} {g : List Value → Prop} (ls : List (List Value)) (c : List Value) (h : Row w0 a sz ls) (hm : ¬ mAddr m a) (hc : ls[i.toNat]? = some c) (hg : g c) : ELD m w0 w a sz i g := by
  unfold ELD; exact ⟨ls, c, .inl ⟨h, hm⟩, hc, hg⟩
theorem ELD.now {m : Nat → Prop} {w0 w : World} {a : Option Addr} {sz : Nat} {i : Int} {g : List Value → Prop} (ls : List (List Value)) (c : List Value) (h : Row w a sz ls) (hc : ls[i.toNat]? = some c) (hg : g c) : ELD m w0 w a sz i g := by
  unfold ELD; exact ⟨ls, c, .inr h, hc, hg⟩
theorem ELD.elim {m : Nat → Prop} {w0 w : World} {a : Option Addr} {sz : Nat} {i : Int} {g : List Value → Prop} (h : ELD m w0 w a sz i g) : ∃ ls c, RowIn m w0 w a sz ls ∧ ls[i.toNat]? = some c ∧ g c := by
  unfold ELD at h; exact h
@[irreducible] def RUN (run : World → Result Next) (k : Value → Prop) : Prop := ∃ v, (∀ w, run w = .ok (.value v) w) ∧ k v
theorem RUN.mk {run : World → Result Next} {k : Value → Prop} {v : Value} (h : ∀ w, run w = .ok (.value v) w) (hk : k v) : RUN run k := by unfold RUN; exact ⟨v, h, hk⟩
theorem RUN.elim {run : World → Result Next} {k : Value → Prop} (h : RUN run k) : ∃ v, (∀ w, run w = .ok (.value v) w) ∧ k v := by unfold RUN at h; exact h

structure RUNL (vs : List Value) (run : World → Result Next) (k : Value → Prop) : Prop where
  out : RUN run k
theorem RUNL.agg {vs : List Value} {run : World → Result Next} {k : Value → Prop} (h : ∀ w, run w = .ok (.value (.agg vs.toArray)) w) (hk : k (.agg vs.toArray)) : RUNL vs run k := ⟨RUN.mk h hk⟩
theorem RUNL.run {vs : List Value} {run : World → Result Next} {k : Value → Prop} (h : RUN run k) : RUNL vs run k := ⟨h⟩

/-! ### forcing -/
def forceL : List Value → (List Value → Prop) → Prop
  | [], k => k []
  | x :: xs, k => forceL xs fun ys => k (x :: ys)
theorem forceL_eq (l : List Value) : ∀ k, forceL l k = k l := by
  induction l with
  | nil => intro k; rfl
  | cons x xs ih => intro k; simp [forceL, ih]
def forceN : Nat → List Value → (List Value → Prop) → Prop
  | 0, _, k => k []
  | _ + 1, [], _ => False
  | n + 1, x :: xs, k => forceN n xs fun ys => k (x :: ys)
theorem forceN_elim (n : Nat) : ∀ (l : List Value) (k : List Value → Prop), forceN n l k → n ≤ l.length ∧ k (l.take n) := by
  induction n with
  | zero => intro l k h; exact ⟨Nat.zero_le _, by simpa [forceN] using h⟩
  | succ n ih =>
    intro l k h
    cases l with
    | nil => exact h.elim
    | cons x xs =>
      obtain ⟨h1, h2⟩ := ih xs _ h
      exact ⟨by simp; omega, by simpa using h2⟩
def forceV (v : Value) (k : TV → Prop) : Prop :=
  match v with
  | .agg cs => forceL cs.toList fun l => k (.v (.agg l.toArray))
  | .tuple cs => forceL cs.toList fun l => k (.v (.tuple l.toArray))
  | v => k (.v v)
theorem forceV_elim {v : Value} {k : TV → Prop} (h : forceV v k) : k (.v v) := by
  unfold forceV at h
  split at h
  · rw [forceL_eq] at h; simpa using h
  · rw [forceL_eq] at h; simpa using h
  · exact h
def valOf (B : List Bx) (t : TV) (k : Value → Prop) : Prop :=
  match t with
  | .v x => k x
  | .tt => k (.bool true)
  | .ff => k (.bool false)
  | .bx i off => k (.pointer (some ⟨(bk B i).blk, off, none⟩))
  | .el a i sz off => k (.pointer (a.map fun ad => (ad.add (i.toNat * sz)).add off))
  | .unk => False
theorem valOf_elim {B : List Bx} {t : TV} {k : Value → Prop} (h : valOf B t k) : t ≠ .unk ∧ k (den B t) := by
  cases t <;> first | exact h.elim | exact ⟨by simp, h⟩
def forceT (t : TV) (k : TV → Prop) : Prop :=
  match t with
  | .v x => k (.v x)
  | .tt => k .tt
  | .ff => k .ff
  | .bx i off => k (.bx i off)
  | .el a i sz off => k (.el a i sz off)
  | .unk => k .unk
theorem forceT_eq (t : TV) (k : TV → Prop) : forceT t k = k t := by cases t <;> rfl
def valsOf (E : List (Nat × TV)) (B : List Bx) : List Operand → (List Value → Prop) → Prop
  | [], k => k []
  | x :: xs, k => valOf B (ev E x) fun v => valsOf E B xs fun vs => k (v :: vs)
theorem valsOf_elim {N : Nat} {E : List (Nat × TV)} {B : List Bx} {a : Act} (hr : Reads N E B a) : ∀ (l : List Operand) (k : List Value → Prop), valsOf E B l k → k (l.map a.eval)
  | [], _, h => h
  | x :: xs, k, h => by
    obtain ⟨h1, h2⟩ := valOf_elim h
    have := valsOf_elim hr xs _ h2
    simpa [hr.eval x h1] using this
def known : TV → Bool
  | .unk => false
  | _ => true
def allKnown (E : List (Nat × TV)) : List Operand → Bool
  | [] => true
  | x :: xs => match known (ev E x) with | true => allKnown E xs | false => false
theorem allKnown_spec {E : List (Nat × TV)} : ∀ {l : List Operand}, allKnown E l = true → ∀ x ∈ l, ev E x ≠ .unk
  | y :: ys, h, x, hx => by
    unfold allKnown at h
    cases hk : known (ev E y) with
    | false => rw [hk] at h; cases h
    | true =>
      rw [hk] at h
      rcases List.mem_cons.1 hx with rfl | hx
      · intro e; rw [e] at hk; cases hk
      · exact allKnown_spec h x hx
def takeT (P : Program) (t : TypeId) (cs : List Value) (k : TV → Prop) : Prop :=
  match P.underlying t with
  | some (.struct _) => forceN (P.cellsOf t) cs fun l => k (.v (.agg l.toArray))
  | some (.array _ _) => forceN (P.cellsOf t) cs fun l => k (.v (.agg l.toArray))
  | some _ => match cs with | v :: _ => k (.v v) | [] => False
  | none => False

/-! ### arithmetic -/
def sameK : IntKind → IntKind → Bool
  | .i64, .i64 => true
  | .u8, .u8 => true
  | .u64, .u64 => true
  | .i32, .i32 => true
  | _, _ => false
theorem sameK_spec {a b : IntKind} (h : sameK a b = true) : a = b := by cases a <;> cases b <;> first | rfl | cases h
@[irreducible] def andI (kd : IntKind) (a b : Int) : Int := kd.wrap ((BitVec.ofInt kd.bits a &&& BitVec.ofInt kd.bits b).toNat : Nat)
theorem andI_255 (a : Int) : 0 ≤ andI .u64 a 255 ∧ andI .u64 a 255 ≤ 255 := by
  have h : (BitVec.ofInt 64 a &&& BitVec.ofInt 64 255).toNat ≤ 255 := by
    rw [BitVec.toNat_and]; exact Nat.and_le_right
  have e : andI .u64 a 255 = ((BitVec.ofInt 64 a &&& BitVec.ofInt 64 255).toNat : Int) := by
    unfold andI
    show IntKind.u64.wrap (((BitVec.ofInt 64 a &&& BitVec.ofInt 64 255).toNat : Nat) : Int) = _
    generalize (BitVec.ofInt 64 a &&& BitVec.ofInt 64 255).toNat = x at h ⊢
    exact wrapU64_in (by omega) (by omega)
  rw [e]; omega
structure BAND (kd : IntKind) (a b : Int) (p : Int → Prop) : Prop where
  out : p (andI kd a b)
theorem BAND.low {a : Int} {p : Int → Prop} (h : ∀ r, 0 ≤ r → r ≤ 255 → p r) : BAND .u64 a 255 p := ⟨h _ (andI_255 a).1 (andI_255 a).2⟩
def arith (op : BinOp) (kd : IntKind) (a b : Int) (k : TV → Prop) : Prop :=
  match op with
  | .add => AR kd (a + b) fun r => k (.v (.int kd r))
  | .sub => AR kd (a - b) fun r => k (.v (.int kd r))
  | .mul => AR kd (a * b) fun r => k (.v (.int kd r))
  | .quo => OBL (b ≠ 0) (AR kd (a.tdiv b) fun r => k (.v (.int kd r)))
  | .rem => OBL (b ≠ 0) (k (.v (.int kd (a.tmod b))))
  | .eql => k (.v (.bool (a == b)))
  | .neq => k (.v (.bool (a != b)))
  | .and => BAND kd a b fun r => k (.v (.int kd r))
  | .lss => k (.v (.bool (decide (a < b))))
  | .leq => k (.v (.bool (decide (a ≤ b))))
  | .gtr => k (.v (.bool (decide (b < a))))
  | .geq => k (.v (.bool (decide (b ≤ a))))
  | _ => False
def sarith (op : BinOp) (a b : ByteArray) (k : TV → Prop) : Prop :=
  match op with
  | .add => OBL (((a.size + b.size : Nat) : Int) ≤ 9223372036854775807) (k (.v (.string (a ++ b))))
  | .eql => k (.v (.bool (a.toList == b.toList)))
  | .neq => k (.v (.bool (!(a.toList == b.toList))))
  | .lss => k (.v (.bool (Op.bytesLess a.toList b.toList)))
  | .gtr => k (.v (.bool (!(Op.bytesLess a.toList b.toList || a.toList == b.toList))))
  | .leq => k (.v (.bool (Op.bytesLess a.toList b.toList || a.toList == b.toList)))
  | .geq => k (.v (.bool (!Op.bytesLess a.toList b.toList)))
  | _ => False
def isBoolT (P : Program) (t : TypeId) : Bool := match P.underlying t with | some .bool => true | _ => false
def isSliceT (P : Program) (t : TypeId) : Bool := match P.underlying t with | some (.slice _) => true | _ => false
def bv (x : TV) (k : Bool → Prop) : Prop :=
  match x with
  | .tt => k true
  | .ff => k false
  | .v (.bool b) => k b
  | _ => False
theorem bv_elim {B : List Bx} {x : TV} {k : Bool → Prop} (h : bv x k) : ∃ b, den B x = .bool b ∧ x ≠ .unk ∧ k b := by
  unfold bv at h
  split at h
  · exact ⟨true, rfl, by simp, h⟩
  · exact ⟨false, rfl, by simp, h⟩
  · exact ⟨_, rfl, by simp, h⟩
  · exact h.elim
def boolop (op : BinOp) (a b : Bool) (k : TV → Prop) : Prop :=
  match op with
  | .eql => k (.v (.bool (a == b)))
  | .neq => k (.v (.bool (!(a == b))))
  | _ => False
def niltest (op : BinOp) (a : Option Addr) (k : TV → Prop) : Prop :=
  match op with
  | .eql => k (.v (.bool a.isNone))
  | .neq => k (.v (.bool (!a.isNone)))
  | _ => False
def shiftv (op : BinOp) (kd : IntKind) (a b : Int) (k : TV → Prop) : Prop :=
  match op with
  | .shr => OBL (0 ≤ b) (k (.v (.int kd (a.fdiv (2 ^ (min b.toNat kd.bits))))))
  | .shl => OBL (0 ≤ b) (k (.v (.int kd (kd.wrap (a * 2 ^ (min b.toNat kd.bits))))))
  | _ => False
def isShift : BinOp → Bool
  | .shl | .shr => true
  | _ => false
def binv (P : Program) (t : TypeId) (op : BinOp) (x y : TV) (k : TV → Prop) : Prop :=
  match x, y with
  | .v (.int kx a), .v (.int ky b) => match isShift op with
    | true => shiftv op kx a b k
    | false => match sameK kx ky with | true => arith op kx a b k | false => False
  | .v (.string a), .v (.string b) => sarith op a b k
  | .v (.slice a _ _), .v (.slice none _ _) => match isSliceT P t with | true => niltest op a k | false => False
  | _, _ => match isBoolT P t with | true => bv x fun a => bv y fun b => boolop op a b k | false => False
/-- '==' and '!=' on structs. -/
def pickB (op : BinOp) (r : Bool) (k : TV → Prop) : Prop :=
  match op with
  | .eql => k (.v (.bool r))
  | .neq => k (.v (.bool (!r)))
  | _ => False
structure EQA (P : Program) (t : TypeId) (op : BinOp) (a b : Array Value) (k : TV → Prop) : Prop where
  out : P.eqGuardType P.depth t = false ∧ ∃ r : Bool, (∀ w, (Op.equalIn 10000 t (.agg a) (.agg b)).run P w = .ok r w) ∧ pickB op r k
theorem EQA.eql {P : Program} {t : TypeId} {a b : Array Value} {k : TV → Prop} (r : Bool) (hg : P.eqGuardType P.depth t = false) (h : ∀ w, (Op.equalIn 10000 t (.agg a) (.agg b)).run P w = .ok r w) (hk : k (.v (.bool r))) : EQA P t .eql a b k := ⟨hg, r, h, hk⟩
theorem EQA.neq {P : Program} {t : TypeId} {a b : Array Value} {k : TV → Prop} (r : Bool) (hg : P.eqGuardType P.depth t = false) (h : ∀ w, (Op.equalIn 10000 t (.agg a) (.agg b)).run P w = .ok r w) (hk : k (.v (.bool (!r)))) : EQA P t .neq a b k := ⟨hg, r, h, hk⟩
/-- what a walk shows of one operation that yields a value whatever the extension: the value's symbol, and that it is so. -/
def Yld (B : List Bx) (tv : TV) (v : Value) : Prop := tv ≠ .unk → v = den B tv
theorem arith_sound {P : Program} {op : BinOp} {kd : IntKind} {a b : Int} {k : TV → Prop} {t : TypeId} (h : arith op kd a b k) (hs : isShift op = false) :
    ∃ v, k (.v v) ∧ ∀ w, (binOp op t (.int kd a) (.int kd b)).run P w = .ok v w := by
  cases op <;> simp only [arith] at h <;> try exact h.elim
  case add => exact ⟨_, h.elim, fun w => by rw [binOp_add]; rfl⟩
  case sub => exact ⟨_, h.elim, fun w => by rw [binOp_sub]; rfl⟩
  case mul => exact ⟨_, h.elim, fun w => by rw [binOp_mul]; rfl⟩
  case quo =>
    obtain ⟨hb, h⟩ := OBL.elim h
    exact ⟨_, h.elim, fun w => by rw [binOp_quo]; simp [Op.intDiv, hb]⟩
  case rem =>
    obtain ⟨hb, h⟩ := OBL.elim h
    exact ⟨_, h, fun w => by rw [binOp_rem]; simp [Op.intDiv, hb]⟩
  case eql => exact ⟨_, h, fun w => by rw [binOp_eql]; rfl⟩
  case neq => exact ⟨_, h, fun w => by rw [binOp_neq]; rfl⟩
  case and => exact ⟨_, h.out, fun w => by unfold andI; simp [binOp, Op.intBits]⟩
  case lss => exact ⟨_, h, fun w => by rw [binOp_lss]; rfl⟩
  case leq => exact ⟨_, h, fun w => by rw [binOp_leq]; rfl⟩
  case gtr => exact ⟨_, h, fun w => by rw [binOp_gtr]; rfl⟩
  case geq => exact ⟨_, h, fun w => by rw [binOp_geq]; rfl⟩
theorem shiftv_sound {P : Program} {op : BinOp} {kd ky : IntKind} {a b : Int} {k : TV → Prop} {t : TypeId} (h : shiftv op kd a b k) :
    ∃ v, k (.v v) ∧ ∀ w, (binOp op t (.int kd a) (.int ky b)).run P w = .ok v w := by
  cases op <;> simp only [shiftv] at h <;> try exact h.elim
  case shl =>
    obtain ⟨hb, h⟩ := OBL.elim h
    exact ⟨_, h, fun w => by rw [binOp_shl]; unfold Op.shift; rw [if_neg (by omega)]; rfl⟩
  case shr =>
    obtain ⟨hb, h⟩ := OBL.elim h
    exact ⟨_, h, fun w => by rw [binOp_shr]; unfold Op.shift; rw [if_neg (by omega)]; rfl⟩
theorem sarith_sound {P : Program} {op : BinOp} {a b : ByteArray} {k : TV → Prop} {t : TypeId} (h : sarith op a b k) :
    ∃ v, k (.v v) ∧ ∀ w, (binOp op t (.string a) (.string b)).run P w = .ok v w := by
  cases op <;> simp only [sarith] at h <;> try exact h.elim
  case add =>
    obtain ⟨hb, h⟩ := OBL.elim h
    refine ⟨_, h, fun w => ?_⟩
    simp only [binOp, Op.stringOp]
    rw [if_neg (by rw [IntKind.max_i64]; omega)]; rfl
  all_goals exact ⟨_, h, fun w => rfl⟩
theorem boolop_sound {P : Program} {op : BinOp} {a b : Bool} {k : TV → Prop} {t : TypeId} (ht : isBoolT P t = true) (h : boolop op a b k) :
    ∃ v, k (.v v) ∧ ∀ w, (binOp op t (.bool a) (.bool b)).run P w = .ok v w := by
  have hu : P.underlying t = some .bool := by unfold isBoolT at ht; split at ht <;> first | assumption | cases ht
  cases op <;> simp only [boolop] at h <;> try exact h.elim
  case eql => exact ⟨_, h, fun w => run_eql_bool w t a b hu⟩
  case neq => exact ⟨_, h, fun w => run_neq_bool w t a b hu⟩
theorem niltest_sound {P : Program} {op : BinOp} {a : Option Addr} {n c n' c' : Nat} {k : TV → Prop} {t : TypeId} (ht : isSliceT P t = true) (h : niltest op a k) :
    ∃ v, k (.v v) ∧ ∀ w, (binOp op t (.slice a n c) (.slice none n' c')).run P w = .ok v w := by
  obtain ⟨e, hu⟩ : ∃ e, P.underlying t = some (.slice e) := by unfold isSliceT at ht; split at ht <;> first | exact ⟨_, by assumption⟩ | cases ht
  cases op <;> simp only [niltest] at h <;> try exact h.elim
  case eql => exact ⟨_, h, fun w => Lib.run_eql_slice_nil w t e a n c n' c' hu⟩
  case neq => exact ⟨_, h, fun w => run_neq_slice_nil_any w t e a n c n' c' hu⟩
theorem binv_sound {P : Program} {op : BinOp} {x y : TV} {k : TV → Prop} {t : TypeId} {B : List Bx} (h : binv P t op x y k) :
    ∃ v, k (.v v) ∧ x ≠ .unk ∧ y ≠ .unk ∧ den B x ≠ .nilIface ∧ (∀ c, den B x ≠ .agg c) ∧ ∀ w, (binOp op t (den B x) (den B y)).run P w = .ok v w := by
  unfold binv at h
  split at h
  · split at h
    · obtain ⟨v, h1, h4⟩ := shiftv_sound (P := P) (t := t) h; exact ⟨v, h1, by simp, by simp, by simp [den], by simp [den], h4⟩
    · rename_i hs
      split at h
      · rename_i hk
        have := sameK_spec hk; subst this
        obtain ⟨v, h1, h4⟩ := arith_sound (P := P) (t := t) h hs; exact ⟨v, h1, by simp, by simp, by simp [den], by simp [den], h4⟩
      · exact h.elim
  · obtain ⟨v, h1, h4⟩ := sarith_sound (P := P) (t := t) h; exact ⟨v, h1, by simp, by simp, by simp [den], by simp [den], h4⟩
  · split at h
    · rename_i ht
      obtain ⟨v, h1, h4⟩ := niltest_sound (P := P) (t := t) ht h; exact ⟨v, h1, by simp, by simp, by simp [den], by simp [den], h4⟩
    · exact h.elim
  · split at h
    · rename_i ht
      obtain ⟨b1, e1, u1, h⟩ := bv_elim (B := B) h
      obtain ⟨b2, e2, u2, h⟩ := bv_elim (B := B) h
      obtain ⟨v, h1, h4⟩ := boolop_sound (P := P) (t := t) ht h
      exact ⟨v, h1, u1, u2, by rw [e1]; simp, by rw [e1]; simp, by rw [e1, e2]; exact h4⟩
    · exact h.elim
theorem eqGuard_skip {op : BinOp} {t : TypeId} {x y : Operand} {a b : Value} (ha : a ≠ .nilIface) (hagg : ∀ c, a ≠ .agg c) : eqGuard op t x y a b = pure () := by
  cases a <;> first | exact absurd rfl ha | exact absurd rfl (hagg _) | (cases op <;> rfl)

end Go.X

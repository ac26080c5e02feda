/- Part 4: regions, codes, loops, calls. -/
import Derived.Test.YtpddilkonkkppaaGreatDoorEng3
namespace Go.X
open Go Go.RowKit

/-! ### the state, the boxes, what holds throughout a walk -/
structure Ctx where
  P : Program
  m : Nat → Prop
  w0 : World
  N : Nat
  fr : Nat
structure Ok (c : Ctx) (S : St) (a : Act) : Prop where
  reads : Reads c.N S.E S.B a
  boxes : Boxes S
  own : ∀ i, i < S.B.length → c.w0.heap.size ≤ (bk S.B i).blk
  apart : ∀ i j, i < S.B.length → j < S.B.length → i ≠ j → (bk S.B i).blk ≠ (bk S.B j).blk
  ext : Ext c.m c.w0 S.w
/-- the blocks in mm are none of the boxes'. -/
def NotIn (mm : Nat → Prop) : List Bx → Prop
  | [] => True
  | b :: r => ¬ mm b.blk ∧ NotIn mm r
theorem NotIn.bk {mm : Nat → Prop} : ∀ {B : List Bx}, NotIn mm B → ∀ i, i < B.length → ¬ mm (bk B i).blk
  | _ :: _, h, 0, _ => h.1
  | _ :: _, h, i + 1, hi => NotIn.bk h.2 i (by simpa using hi)
theorem NotIn.non (B : List Bx) : NotIn Non B := by
  induction B with
  | nil => trivial
  | cons b r ih => exact ⟨id, ih⟩
def setBk : List Bx → Nat → List Value → List Bx
  | [], _, _ => []
  | b :: r, 0, cs => ⟨b.blk, cs, b.ty⟩ :: r
  | b :: r, n + 1, cs => b :: setBk r n cs
theorem length_setBk (B : List Bx) : ∀ i cs, (setBk B i cs).length = B.length := by
  induction B with
  | nil => intro i cs; rfl
  | cons b r ih => intro i cs; cases i <;> simp [setBk, ih]
theorem bk_setBk_ne (B : List Bx) : ∀ i j cs, i ≠ j → bk (setBk B i cs) j = bk B j := by
  induction B with
  | nil => intro i j cs _; rfl
  | cons b r ih =>
    intro i j cs h
    cases i with
    | zero => cases j with
      | zero => exact absurd rfl h
      | succ j => rfl
    | succ i => cases j with
      | zero => rfl
      | succ j => exact ih i j cs (by omega)
theorem bk_setBk_same (B : List Bx) : ∀ i cs, i < B.length → bk (setBk B i cs) i = ⟨(bk B i).blk, cs, (bk B i).ty⟩ := by
  induction B with
  | nil => intro i cs h; simp at h
  | cons b r ih => intro i cs h; cases i with
    | zero => rfl
    | succ i => exact ih i cs (by simpa using h)
theorem blk_setBk (B : List Bx) (i : Nat) (cs : List Value) (j : Nat) : (bk (setBk B i cs) j).blk = (bk B j).blk := by
  by_cases h : i = j
  · subst h
    rcases Nat.lt_or_ge i B.length with h | h
    · rw [bk_setBk_same _ _ _ h]
    · rw [bk_none _ _ h, bk_none _ _ (by rw [length_setBk]; exact h)]
  · rw [bk_setBk_ne _ _ _ _ h]
theorem den_setBk (B : List Bx) (i : Nat) (cs : List Value) (t : TV) : den (setBk B i cs) t = den B t := by
  cases t <;> simp [den, blk_setBk]
theorem good_len {B B' : List Bx} {t : TV} (h : good B t) (hl : B.length ≤ B'.length) : good B' t := by
  cases t <;> first | exact h | exact Nat.lt_of_lt_of_le h hl
theorem Reads.congr {N : Nat} {E : List (Nat × TV)} {B B' : List Bx} {a : Act} (h : Reads N E B a) (hl : B.length ≤ B'.length) (hd : ∀ t, X.good B t → den B' t = den B t) : Reads N E B' a :=
  ⟨h.1, h.2.1, fun i => good_len (h.2.2.1 i) hl, fun i hi => by rw [hd _ (h.2.2.1 i)]; exact h.2.2.2 i hi⟩
/-- from one world to the next. -/
theorem Ok.world {c : Ctx} {S : St} {a : Act} (h : Ok c S a) {mm : Nat → Prop} {w' : World} (e : Ext mm S.w w') (hn : NotIn mm S.B) (hm : ∀ k, k < c.w0.heap.size → mm k → c.m k) : Ok c { S with w := w' } a :=
  ⟨h.reads, fun i hi => e.heap (h.boxes i hi) (hn.bk i hi), h.own, h.apart, h.ext.trans' e hm⟩
theorem Ok.world0 {c : Ctx} {S : St} {a : Act} (h : Ok c S a) {w' : World} (e : E0 S.w w') : Ok c { S with w := w' } a := h.world e (NotIn.non _) (fun _ _ x => x.elim)

/-! ### one operation, put away: the state is taken apart before it is laid anew, so that it stays flat -/
def refK (S : St) (d : Nat) (t : TV) (go : St → Prop) : Prop :=
  match S with
  | ⟨E, B, w⟩ => go ⟨(d, t) :: E, B, w⟩
theorem refK_eq (S : St) (d : Nat) (t : TV) (go : St → Prop) : refK S d t go = go { S with E := (d, t) :: S.E } := by cases S; rfl
def withW (S : St) (w' : World) (go : St → Prop) : Prop :=
  match S with
  | ⟨E, B, _⟩ => go ⟨E, B, w'⟩
theorem withW_eq (S : St) (w' : World) (go : St → Prop) : withW S w' go = go { S with w := w' } := by cases S; rfl
def putK (N : Nat) (S : St) (dst : Option Tmp) (t : TV) (K : St → Prop) : Prop :=
  match dst with
  | none => K S
  | some d => match Nat.blt d N with
    | true => refK S d t K
    | false => False
theorem putK_elim {c : Ctx} {S : St} {a : Act} (hk : Ok c S a) {dst : Option Tmp} {t : TV} {K : St → Prop} (h : putK c.N S dst t K) (v : Value) (hg : good S.B t) (hv : t ≠ .unk → v = den S.B t) :
    ∃ S', K S' ∧ Ok c S' (a.put dst v) ∧ S'.w = S.w ∧ S'.B = S.B := by
  unfold putK at h
  split at h
  · exact ⟨S, h, hk, rfl, rfl⟩
  · rename_i d
    split at h
    · rename_i hd
      rw [refK_eq] at h
      have hd' : d < c.N := by
        exact Nat.le_of_ble_eq_true hd
      exact ⟨_, h, ⟨hk.reads.put d t hd' v hg hv, hk.boxes, hk.own, hk.apart, hk.ext⟩, rfl, rfl⟩
    · exact h.elim

/-! ### guards -/
def guardK (ops : List Oper) (o : Oper) (S : St) (go skip : St → Prop) : Prop :=
  match o.guard with
  | none => go S
  | some (j, want) => match ops[j]? with
    | some oj => match oj.dst with
      | some d => match lk S.E d with
        | .tt => match want with | true => go S | false => skip S
        | .ff => match want with | true => skip S | false => go S
        | .v (.bool b) => match want with
          | true => BIF b (refK S d .tt go) (refK S d .ff skip)
          | false => BIF b (refK S d .tt skip) (refK S d .ff go)
        | .v (.tuple _) => skip S
        | _ => False
      | none => False
    | none => False
theorem Reads.refine {N : Nat} {E : List (Nat × TV)} {B : List Bx} {a : Act} (h : Reads N E B a) (d : Nat) (t t' : TV) (hl : lk E d = t) (ht : t ≠ .unk) (hd : den B t' = den B t) (hg : X.good B t') : Reads N ((d, t') :: E) B a := by
  refine ⟨h.1, h.2.1, fun i => ?_, fun i hi => ?_⟩
  · rw [lk_cons]; split
    · exact hg
    · exact h.2.2.1 i
  · rw [lk_cons] at hi ⊢
    split
    · rename_i e; subst e
      rw [hd, ← hl]; exact h.2.2.2 d (by rw [hl]; exact ht)
    · rename_i e
      rw [if_neg e] at hi
      exact h.2.2.2 i hi
theorem Ok.refine {c : Ctx} {S : St} {a : Act} (h : Ok c S a) (d : Nat) (t t' : TV) (hl : lk S.E d = t) (ht : t ≠ .unk) (hd : den S.B t' = den S.B t) (hg : good S.B t') : Ok c { S with E := (d, t') :: S.E } a :=
  ⟨h.reads.refine d t t' hl ht hd hg, h.boxes, h.own, h.apart, h.ext⟩
theorem tmps_bool {c : Ctx} {S : St} {a : Act} (h : Ok c S a) {d : Nat} {t : TV} {b : Bool} (hl : lk S.E d = t) (ht : t ≠ .unk) (hd : den S.B t = .bool b) : a.tmps[d]? = some (.bool b) := by
  have := h.reads.2.2.2 d (by rw [hl]; exact ht)
  rw [hl, hd, Array.getD_eq_getD_getElem?] at this
  cases hx : a.tmps[d]? with
  | none => rw [hx] at this; cases this
  | some v => rw [hx] at this; simpa using this
theorem guardK_elim {c : Ctx} {ops : List Oper} {o : Oper} {S : St} {a : Act} {go skip : St → Prop} (hk : Ok c S a) (h : guardK ops o S go skip) :
    ∃ S', Ok c S' a ∧ S'.w = S.w ∧ S'.B = S.B ∧ ((Region.wanted o (yielded ops.toArray a.tmps) = true ∧ go S') ∨ (Region.wanted o (yielded ops.toArray a.tmps) = false ∧ skip S')) := by
  unfold guardK at h
  split at h
  · rename_i hg
    exact ⟨S, hk, rfl, rfl, .inl ⟨by simp [Region.wanted, hg], h⟩⟩
  · rename_i j want hg
    split at h
    · rename_i oj hj
      split at h
      · rename_i d hd
        have hy : ∀ b, a.tmps[d]? = some (.bool b) → yielded ops.toArray a.tmps j = some b := by
          intro b hb
          simp [yielded, hj, hd, hb]
        split at h
        · rename_i hl
          have hw := hy true (tmps_bool hk hl (by simp) rfl)
          split at h
          · exact ⟨S, hk, rfl, rfl, .inl ⟨by simp [Region.wanted, hg, hw], h⟩⟩
          · exact ⟨S, hk, rfl, rfl, .inr ⟨by simp [Region.wanted, hg, hw], h⟩⟩
        · rename_i hl
          have hw := hy false (tmps_bool hk hl (by simp) rfl)
          split at h
          · exact ⟨S, hk, rfl, rfl, .inr ⟨by simp [Region.wanted, hg, hw], h⟩⟩
          · exact ⟨S, hk, rfl, rfl, .inl ⟨by simp [Region.wanted, hg, hw], h⟩⟩
        · rename_i b hl
          have hw := hy b (tmps_bool hk hl (by simp) rfl)
          simp only [refK_eq] at h
          split at h
          · rcases BIF.elim h with ⟨rfl, h1⟩ | ⟨rfl, h1⟩
            · exact ⟨_, hk.refine d _ .tt hl (by simp) rfl trivial, rfl, rfl, .inl ⟨by simp [Region.wanted, hg, hw], h1⟩⟩
            · exact ⟨_, hk.refine d _ .ff hl (by simp) rfl trivial, rfl, rfl, .inr ⟨by simp [Region.wanted, hg, hw], h1⟩⟩
          · rcases BIF.elim h with ⟨rfl, h1⟩ | ⟨rfl, h1⟩
            · exact ⟨_, hk.refine d _ .tt hl (by simp) rfl trivial, rfl, rfl, .inr ⟨by simp [Region.wanted, hg, hw], h1⟩⟩
            · exact ⟨_, hk.refine d _ .ff hl (by simp) rfl trivial, rfl, rfl, .inl ⟨by simp [Region.wanted, hg, hw], h1⟩⟩
        · rename_i vs hl
          have hw : yielded ops.toArray a.tmps j = none := by
            have := hk.reads.2.2.2 d (by rw [hl]; simp)
            rw [hl, Array.getD_eq_getD_getElem?] at this
            simp only [yielded, List.getElem?_toArray, hj, hd, Option.bind_some]
            cases hx : a.tmps[d]? with
            | none => rfl
            | some v => rw [hx] at this; simp only [Option.getD_some, den] at this; subst this; rfl
          exact ⟨S, hk, rfl, rfl, .inr ⟨by simp [Region.wanted, hg, hw], h⟩⟩
        · exact h.elim
      · exact h.elim
    · exact h.elim

/-! ### calls -/
def hasBody (P : Program) (g : FuncId) : Bool :=
  match P.funcs[g]? with
  | some fn => (fn.name != "runtime.NumGoroutine") && fn.body.isSome
  | none => false
theorem run_callFunc {P : Program} {g : FuncId} (h : hasBody P g = true) (args : Array Value) (w : World) : (callFunc g args).run P w = .ok (.enter g args) w := by
  unfold hasBody at h
  cases hf : P.funcs[g]? with
  | none => rw [hf] at h; cases h
  | some fn =>
    rw [hf] at h
    simp only [Bool.and_eq_true, bne_iff_ne, ne_eq] at h
    obtain ⟨h1, h2⟩ := h
    cases hb : fn.body with
    | none => rw [hb] at h2; cases h2
    | some b => simp [callFunc, hf, h1, hb]
/-- a call in a region of fixed order: what is to be shown of the callee. -/
@[irreducible] def CALL (c : Ctx) (S : St) (g : FuncId) (args : List Value) (k : Value → World → Prop) : Prop :=
  hasBody c.P g = true ∧ (Ext c.m c.w0 S.w → Boxes S → Calls c.P g args.toArray S.w fun e w' => ∃ r, e = .returned r ∧ ∃ mm, Ext mm S.w w' ∧ NotIn mm S.B ∧ (∀ k, k < c.w0.heap.size → mm k → c.m k) ∧ k r w')
theorem CALL.e0 {c : Ctx} {S : St} {g : FuncId} {args : List Value} {k : Value → World → Prop} (hb : hasBody c.P g = true)
    (h : Ext c.m c.w0 S.w → Boxes S → Calls c.P g args.toArray S.w fun e w' => ∃ r, e = .returned r ∧ E0 S.w w' ∧ k r w') : CALL c S g args k := by
  unfold CALL
  exact ⟨hb, fun h1 h2 => (h h1 h2).mono fun e w' ⟨r, e1, e2, e3⟩ => ⟨r, e1, Non, e2, NotIn.non _, fun _ _ x => x.elim, e3⟩⟩
theorem CALL.mut {c : Ctx} {S : St} {g : FuncId} {args : List Value} {k : Value → World → Prop} (mm : Nat → Prop) (hb : hasBody c.P g = true) (hn : NotIn mm S.B) (hm : ∀ k, k < c.w0.heap.size → mm k → c.m k)
    (h : Ext c.m c.w0 S.w → Boxes S → Calls c.P g args.toArray S.w fun e w' => ∃ r, e = .returned r ∧ Ext mm S.w w' ∧ k r w') : CALL c S g args k := by
  unfold CALL
  exact ⟨hb, fun h1 h2 => (h h1 h2).mono fun e w' ⟨r, e1, e2, e3⟩ => ⟨r, e1, mm, e2, hn, hm, e3⟩⟩
theorem CALL.elim {c : Ctx} {S : St} {g : FuncId} {args : List Value} {k : Value → World → Prop} (h : CALL c S g args k) :
    hasBody c.P g = true ∧ (Ext c.m c.w0 S.w → Boxes S → Calls c.P g args.toArray S.w fun e w' => ∃ r, e = .returned r ∧ ∃ mm, Ext mm S.w w' ∧ NotIn mm S.B ∧ (∀ k, k < c.w0.heap.size → mm k → c.m k) ∧ k r w') := by
  unfold CALL at h; exact h
/-- a call in a region whose order is open: one value, whatever the extension. -/
@[irreducible] def CALLQ (c : Ctx) (S : St) (g : FuncId) (args : List Value) (k : Value → Prop) : Prop :=
  hasBody c.P g = true ∧ ∃ r, (∀ w', E0 S.w w' → Ext c.m c.w0 w' → Boxes { S with w := w' } → Calls c.P g args.toArray w' fun e w'' => e = .returned r ∧ E0 w' w'') ∧ k r
theorem CALLQ.mk {c : Ctx} {S : St} {g : FuncId} {args : List Value} {k : Value → Prop} (hb : hasBody c.P g = true) (r : Value)
    (h : ∀ w', E0 S.w w' → Ext c.m c.w0 w' → Boxes { S with w := w' } → Calls c.P g args.toArray w' fun e w'' => e = .returned r ∧ E0 w' w'') (hk : k r) : CALLQ c S g args k := by
  unfold CALLQ; exact ⟨hb, r, h, hk⟩
theorem CALLQ.elim {c : Ctx} {S : St} {g : FuncId} {args : List Value} {k : Value → Prop} (h : CALLQ c S g args k) :
    hasBody c.P g = true ∧ ∃ r, (∀ w', E0 S.w w' → Ext c.m c.w0 w' → Boxes { S with w := w' } → Calls c.P g args.toArray w' fun e w'' => e = .returned r ∧ E0 w' w'') ∧ k r := by
  unfold CALLQ at h; exact h
/-- the callee and the arguments of a call. -/
def callee (S : St) (f : Operand) (args : List Operand) (k : FuncId → List Value → Prop) : Prop :=
  match ev S.E f with
  | .v (.func (.func g) p cap) => valsOf S.E S.B args fun vs => k g (p.toList ++ vs ++ cap.toList)
  | _ => False
theorem callee_elim {c : Ctx} {S : St} {a : Act} {o : Oper} {cl : Call} {f : Operand} {k : FuncId → List Value → Prop} (hk : Ok c S a) (ho : o.op = .call cl) (hc : cl.callee = .value f) (h : callee S f cl.args.toList k) :
    ∃ g vs, k g vs ∧ (hasBody c.P g = true → ∀ w, (execOp a.eval o).run c.P w = .ok (.enter g vs.toArray) w) := by
  unfold callee at h
  split at h
  · rename_i g p cap hf
    have hfe := hk.reads.eval f (by rw [hf]; simp)
    rw [hf] at hfe
    have h1 := valsOf_elim hk.reads _ _ h
    refine ⟨g, _, h1, fun hb w => ?_⟩
    have : (p.toList ++ List.map a.eval cl.args.toList ++ cap.toList).toArray = p ++ cl.args.map a.eval ++ cap := by
      apply Array.ext'
      simp
    rw [this]
    simp [execOp, ho, resolve, hc, Deferred.ofValue, hfe, den, invoke, run_callFunc hb]
  · exact h.elim

/-! ### a region whose order is open: only readings, and calls that only extend the world -/
def qstep (c : Ctx) (S : St) (o : Oper) (K : St → Prop) : Prop :=
  match o.op with
  | .call cl => match cl.callee with
    | .value f => callee S f cl.args.toList fun g vs => CALLQ c S g vs fun r => forceV r fun tv => putK c.N S o.dst tv K
    | _ => qop c.P c.m c.w0 S o.op o.type fun tv => putK c.N S o.dst tv K
  | _ => qop c.P c.m c.w0 S o.op o.type fun tv => putK c.N S o.dst tv K
def vcQ (c : Ctx) (ops : List Oper) : List Oper → St → (St → Prop) → Prop
  | [], S, K => K S
  | o :: rest, S, K => guardK ops o S (fun S => qstep c S o fun S => vcQ c ops rest S K) (fun S => putK c.N S o.dst (.v undef) fun S => vcQ c ops rest S K)
theorem qstep_sound {c : Ctx} {S : St} {a : Act} {o : Oper} {K : St → Prop} (hk : Ok c S a) (h : qstep c S o K) :
    ∃ v, (∀ w', E0 S.w w' → o.quietAt c.P a (fun w'' => E0 S.w w'') w' v) ∧ ∃ S', K S' ∧ Ok c S' (a.put o.dst v) ∧ S'.w = S.w ∧ S'.B = S.B := by
  have pure : (qop c.P c.m c.w0 S o.op o.type fun tv => putK c.N S o.dst tv K) →
      ∃ v, (∀ w', E0 S.w w' → o.quietAt c.P a (fun w'' => E0 S.w w'') w' v) ∧ ∃ S', K S' ∧ Ok c S' (a.put o.dst v) ∧ S'.w = S.w ∧ S'.B = S.B := by
    intro h
    obtain ⟨tv, v, h1, h2, h3, h4⟩ := qop_sound hk.reads hk.boxes hk.ext h
    refine ⟨v, fun w' e => ?_, putK_elim hk h1 v h3 h2⟩
    unfold Oper.quietAt
    rw [h4 w' (.inr e)]
    exact ⟨rfl, rfl⟩
  unfold qstep at h
  split at h
  · rename_i cl ho
    split at h
    · rename_i f hc
      obtain ⟨g, vs, h1, h2⟩ := callee_elim hk ho hc h
      obtain ⟨hb, r, h3, h4⟩ := CALLQ.elim h1
      have h5 := forceV_elim h4
      refine ⟨r, fun w' e => ?_, putK_elim hk h5 r trivial (fun _ => rfl)⟩
      unfold Oper.quietAt
      rw [h2 hb w']
      exact ⟨rfl, (h3 w' e (hk.world0 e).ext (hk.world0 e).boxes).mono fun e' w'' ⟨x, y⟩ => ⟨x, e.trans y⟩⟩
    · exact pure h
  · exact pure h
theorem vcQ_sound {c : Ctx} {ops : List Oper} {K : St → Prop} {w : World} {B : List Bx} : ∀ (l : List Oper) (S : St) (a : Act), Ok c S a → S.w = w → S.B = B → vcQ c ops l S K →
    wpQuiet c.P ops.toArray (fun w' => E0 w w') (fun a' => ∃ S', K S' ∧ Ok c S' a' ∧ S'.w = w ∧ S'.B = B) l a
  | [], S, a, hk, hw, hB, h => ⟨S, h, hk, hw, hB⟩
  | o :: rest, S, a, hk, hw, hB, h => by
    obtain ⟨S', hk', hw', hB', h⟩ := guardK_elim hk h
    unfold wpQuiet
    rcases h with ⟨hg, h⟩ | ⟨hg, h⟩
    · rw [if_pos hg]
      obtain ⟨v, h1, S2, h2, h3, h4, h5⟩ := qstep_sound hk' h
      rw [hw', hw] at h1
      exact ⟨v, h1, vcQ_sound rest S2 _ h3 (by rw [h4, hw', hw]) (by rw [h5, hB', hB]) h2⟩
    · rw [hg, if_neg (by simp)]
      obtain ⟨S2, h2, h3, h4, h5⟩ := putK_elim hk' h undef trivial (fun _ => rfl)
      exact vcQ_sound rest S2 _ h3 (by rw [h4, hw', hw]) (by rw [h5, hB', hB]) h2

end Go.X

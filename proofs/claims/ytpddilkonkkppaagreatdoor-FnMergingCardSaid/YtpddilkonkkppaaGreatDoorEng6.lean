/- Part 6: codes, loops, the entry. -/
import Derived.Test.YtpddilkonkkppaaGreatDoorEng5
namespace Go.X
open Go Go.RowKit

/-! ### a region whose order is open -/
@[irreducible] def DRAW (c : Ctx) (id : Nat) (ops : Array Oper) (S : St) (K : St → Prop) : Prop :=
  ∀ a, Ok c S a → (Code.region id ops true).wp c.P (fun e a' w' => e = .normal ∧ ∃ S', K S' ∧ Ok c S' a' ∧ S'.w = w') a S.w
theorem Ok.drawn {c : Ctx} {S : St} {a : Act} (h : Ok c S a) (n : Nat) : Ok c { S with w := { S.w with drawn := n } } a :=
  ⟨h.reads, h.boxes, h.own, h.apart, h.ext.drawn n⟩
theorem DRAW.quiet {c : Ctx} {id : Nat} {ops : Array Oper} {S : St} {K : St → Prop} (hm : c.P.follows .mixedOrders = true) (hB : Region.lexB .any ops = true) (h : vcQ c ops.toList ops.toList S fun S' => ∀ w', E0 S.w w' → withW S' w' K) : DRAW c id ops S K := by
  unfold DRAW
  intro a hk
  simp only [withW_eq] at h
  refine wp_region_quiet (C := fun w' => E0 S.w w') hm hB ((Ext.refl _ _).drawn _) ?_
  have hq := vcQ_sound (w := S.w) (B := S.B) ops.toList S a hk rfl rfl h
  rw [show ops.toList.toArray = ops from by simp] at hq
  have mono : ∀ (l : List Oper) (a : Act), wpQuiet c.P ops (fun w' => E0 S.w w') (fun a' => ∃ S', (∀ w', E0 S.w w' → K { S' with w := w' }) ∧ Ok c S' a' ∧ S'.w = S.w ∧ S'.B = S.B) l a →
      wpQuiet c.P ops (fun w' => E0 S.w w') (fun a' => ∀ w', E0 S.w w' → (fun e a' w' => e = Exit.normal ∧ ∃ S', K S' ∧ Ok c S' a' ∧ S'.w = w') .normal a' w') l a := by
    intro l
    induction l with
    | nil =>
      intro a ⟨S', h1, h2, h3, h4⟩ w' e
      exact ⟨rfl, _, h1 w' e, h2.world0 (h3 ▸ e), rfl⟩
    | cons o rest ih =>
      intro a h
      unfold wpQuiet at h ⊢
      split
      · rename_i hw
        rw [if_pos hw] at h
        obtain ⟨v, h1, h2⟩ := h
        exact ⟨v, h1, ih _ h2⟩
      · rename_i hw
        rw [if_neg hw] at h
        exact ih _ h
  exact mono _ _ hq
theorem DRAW.raw {c : Ctx} {id : Nat} {ops : Array Oper} {S : St} {K : St → Prop} (h : ∀ a, Ok c S a → (Code.region id ops true).wp c.P (fun e a' w' => e = .normal ∧ ∃ S', K S' ∧ Ok c S' a' ∧ S'.w = w') a S.w) : DRAW c id ops S K := by
  unfold DRAW; exact h
theorem DRAW.elim {c : Ctx} {id : Nat} {ops : Array Oper} {S : St} {K : St → Prop} (h : DRAW c id ops S K) : ∀ a, Ok c S a → (Code.region id ops true).wp c.P (fun e a' w' => e = .normal ∧ ∃ S', K S' ∧ Ok c S' a' ∧ S'.w = w') a S.w := by
  unfold DRAW at h; exact h

/-! ### .. all its orders: what hangs on no world is taken first -/
def isPure : Op → Bool
  | .move _ | .assign _ | .pick .. | .binOp .. | .unOp .. | .fieldAddr .. | .indexAddr .. | .index .. | .extract .. | .build .. | .field .. | .slice .. | .makeFunc .. => true
  | .call c => match c.callee with
    | .builtin .len => true
    | .builtin .min => true
    | .builtin .max => true
    | _ => false
  | _ => false
def pickPure (ops : Array Oper) (listed : Array Bool) : List Nat → Option Nat
  | [] => none
  | i :: r => match ops[i]? with
    | some o => match isPure o.op with
      | true => match Region.free .any ops listed i with
        | true => some i
        | false => pickPure ops listed r
      | false => pickPure ops listed r
    | none => pickPure ops listed r
theorem pickPure_mem {ops : Array Oper} {listed : Array Bool} {i : Nat} : ∀ {l : List Nat}, pickPure ops listed l = some i → i ∈ l ∧ Region.free .any ops listed i = true ∧ ∃ o, ops[i]? = some o ∧ isPure o.op = true
  | j :: r, h => by
    unfold pickPure at h
    split at h
    · rename_i o ho
      split at h
      · rename_i hp
        split at h
        · rename_i hf
          cases h
          exact ⟨List.mem_cons_self, hf, o, ho, hp⟩
        · obtain ⟨h1, h2⟩ := pickPure_mem h
          exact ⟨List.mem_cons_of_mem _ h1, h2⟩
      · obtain ⟨h1, h2⟩ := pickPure_mem h
        exact ⟨List.mem_cons_of_mem _ h1, h2⟩
    · obtain ⟨h1, h2⟩ := pickPure_mem h
      exact ⟨List.mem_cons_of_mem _ h1, h2⟩
def allOf : List Nat → (Nat → Prop) → Prop
  | [], _ => True
  | i :: r, p => p i ∧ allOf r p
theorem allOf_mem {p : Nat → Prop} : ∀ {l : List Nat}, allOf l p → ∀ i ∈ l, p i
  | _ :: _, h, i, hi => by
    rcases List.mem_cons.1 hi with rfl | hi
    · exact h.1
    · exact allOf_mem h.2 i hi
def forceBs : List Bool → (List Bool → Prop) → Prop
  | [], k => k []
  | true :: r, k => forceBs r fun r' => k (true :: r')
  | false :: r, k => forceBs r fun r' => k (false :: r')
theorem forceBs_eq : ∀ (l : List Bool) (k : List Bool → Prop), forceBs l k = k l
  | [], _ => rfl
  | true :: r, k => by simp [forceBs, forceBs_eq r]
  | false :: r, k => by simp [forceBs, forceBs_eq r]
def vcA (c : Ctx) (ops : Array Oper) : Nat → List Bool → St → (St → Prop) → Prop
  | 0, _, _, _ => False
  | fuel + 1, listed, S, K => match Region.ready .any ops listed.toArray with
    | [] => K S
    | r :: rs => match pickPure ops listed.toArray (r :: rs) with
      | some i => match ops[i]? with
        | some o => forceBs (listed.set i true) fun listed => guardK ops.toList o S (fun S => qop c.P c.m c.w0 S o.op o.type fun tv => putK c.N S o.dst tv fun S => vcA c ops fuel listed S K)
            (fun S => putK c.N S o.dst (.v undef) fun S => vcA c ops fuel listed S K)
        | none => False
      | none => allOf (r :: rs) fun i => match ops[i]? with
        | some o => forceBs (listed.set i true) fun listed => guardK ops.toList o S (fun S => sstep c S o fun S => vcA c ops fuel listed S K)
            (fun S => putK c.N S o.dst (.v undef) fun S => vcA c ops fuel listed S K)
        | none => False
theorem vcA_sound {c : Ctx} {ops : Array Oper} {K : St → Prop} {Q : Exit → Act → World → Prop} (hs : Region.noSelect ops = true) (hp : ∀ ch a w, ¬ Q (.panic ch) a w) (hQ : ∀ S a, K S → Ok c S a → Q .normal a S.w) : ∀ (fuel : Nat) (listed : List Bool) (S : St) (a : Act), Ok c S a → vcA c ops fuel listed S K → wpAny c.P .any ops Q fuel listed.toArray a S.w
  | 0, _, _, _, _, h => h.elim
  | fuel + 1, listed, S, a, hk, h => by
    unfold vcA at h
    split at h
    · rename_i hr
      exact wpAny_done hr (hQ S a h hk) _
    · rename_i r rs hr
      split at h
      · rename_i i hi
        obtain ⟨hmem, hfree, o, ho, hpure⟩ := pickPure_mem hi
        rw [ho] at h
        dsimp only at h
        rw [forceBs_eq] at h
        obtain ⟨S', hk', hw', hB', h⟩ := guardK_elim hk h
        rw [show ops.toList.toArray = ops from by simp] at h
        have hld : isLd o.op = false := by cases hop : o.op <;> rw [hop] at hpure <;> first | rfl | cases hpure
        have set' : (listed.set i true).toArray = listed.toArray.setIfInBounds i true := by simp
        rw [← hw']
        rcases h with ⟨hg, h⟩ | ⟨hg, h⟩
        · obtain ⟨tv, v, h1, h2, h3, h4⟩ := qop_sound hk'.reads hk'.boxes hk'.ext h
          obtain ⟨S2, h5, h6, h7, _⟩ := putK_elim hk' h1 v h3 h2
          refine wpAny_take ho hs hfree (by rw [hr]; simpa using hmem) (fun _ _ _ x => (hp _ _ _ x).elim) (v := v) (.inl ⟨hg, fun w => h4 w (.inl hld)⟩) ?_
          rw [← set', ← h7]
          exact vcA_sound hs hp hQ fuel _ S2 _ h6 h5
        · obtain ⟨S2, h5, h6, h7, _⟩ := putK_elim hk' h undef trivial (fun _ => rfl)
          refine wpAny_take ho hs hfree (by rw [hr]; simpa using hmem) (fun _ _ _ x => (hp _ _ _ x).elim) (v := undef) (.inr ⟨hg, rfl⟩) ?_
          rw [← set', ← h7]
          exact vcA_sound hs hp hQ fuel _ S2 _ h6 h5
      · refine wpAny_all hr (by simp) fun i hi => ?_
        have h := allOf_mem h i hi
        cases ho : ops[i]? with
        | none => rw [ho] at h; exact h.elim
        | some o =>
          rw [ho] at h
          dsimp only at h
          rw [forceBs_eq] at h
          obtain ⟨S', hk', hw', hB', h⟩ := guardK_elim hk h
          rw [show ops.toList.toArray = ops from by simp] at h
          have set' : (listed.set i true).toArray = listed.toArray.setIfInBounds i true := by simp
          unfold wpOp
          rw [ho]
          dsimp only
          rcases h with ⟨hg, h⟩ | ⟨hg, h⟩
          · rw [if_pos hg]
            refine .inl ?_
            rw [← hw']
            exact sstep_sound hk' (fun S2 a2 h2 k2 => by rw [← set']; exact vcA_sound hs hp hQ fuel _ S2 a2 k2 h2) h
          · rw [hg, if_neg (by simp)]
            obtain ⟨S2, h5, h6, h7, _⟩ := putK_elim hk' h undef trivial (fun _ => rfl)
            rw [← set', ← hw', ← h7]
            exact vcA_sound hs hp hQ fuel _ S2 _ h6 h5
def noneYet : Nat → List Bool
  | 0 => []
  | n + 1 => false :: noneYet n
theorem noneYet_eq (n : Nat) : (noneYet n).toArray = Array.replicate n false := by
  have : noneYet n = List.replicate n false := by induction n with
    | zero => rfl
    | succ n ih => simp [noneYet, ih, List.replicate_succ]
  rw [this]; simp
theorem DRAW.any {c : Ctx} {id : Nat} {ops : Array Oper} {S : St} {K : St → Prop} (hm : c.P.follows .mixedOrders = true) (hs : Region.noSelect ops = true)
    (h : ∀ w', E0 S.w w' → withW S w' fun S => vcA c ops ops.size (noneYet ops.size) S K) : DRAW c id ops S K := by
  unfold DRAW
  intro a hk
  refine wp_region_any hm ?_
  have h1 := h { S.w with drawn := S.w.drawn + 1 } ((Ext.refl _ _).drawn _)
  rw [withW_eq] at h1
  have := vcA_sound (Q := fun e a' w' => e = Exit.normal ∧ ∃ S', K S' ∧ Ok c S' a' ∧ S'.w = w') hs (fun _ _ _ x => by cases x.1) (fun S' a' h2 h3 => ⟨rfl, S', h2, h3, rfl⟩) _ _ _ a (hk.drawn _) h1
  rw [noneYet_eq] at this
  exact this

/-! ### loops -/
def wrsOps : List Oper → List Nat → List Nat
  | [], l => l
  | o :: r, l => match o.dst with
    | some d => d :: wrsOps r l
    | none => wrsOps r l
def wrs : Code → List Nat → List Nat
  | .region _ ops _, l => wrsOps ops.toList l
  | .seq a b, l => wrs a (wrs b l)
  | .cond _ a b, l => wrs a (wrs b l)
  | .block _ a, l => wrs a l
  | .loop a, l => wrs a l
  | .scope a, l => wrs a l
  | _, l => l
def memN : List Nat → Nat → Bool
  | [], _ => false
  | j :: r, i => match Nat.beq j i with | true => true | false => memN r i
def drop (wr : List Nat) : List (Nat × TV) → List (Nat × TV)
  | [] => []
  | (i, t) :: r => match memN wr i with | true => drop wr r | false => (i, t) :: drop wr r
def Mat : List (Nat × TV) → List (Nat × TV) → Prop
  | [], _ => True
  | (i, t) :: r, E => lk E i = t ∧ Mat r E
def Keep (D E : List (Nat × TV)) : Prop := D.map (fun p => lk E p.1) = D.map (fun p => lk D p.1)
def noBx : List (Nat × TV) → Bool
  | [] => true
  | (_, .bx _ _) :: _ => false
  | _ :: r => noBx r
def updB (B : List Bx) : List (Nat × List Value) → List Bx
  | [] => B
  | (i, cs) :: r => setBk (updB B r) i cs
def takeB : Nat → List Bx → List Bx
  | 0, _ => []
  | _ + 1, [] => []
  | n + 1, b :: r => b :: takeB n r
theorem length_updB (B : List Bx) : ∀ U, (updB B U).length = B.length
  | [] => rfl
  | (i, cs) :: r => by simp [updB, length_setBk, length_updB B r]
theorem blk_updB (B : List Bx) (j : Nat) : ∀ U, (bk (updB B U) j).blk = (bk B j).blk
  | [] => rfl
  | (i, cs) :: r => by simp [updB, blk_setBk, blk_updB B j r]
theorem bk_takeB : ∀ (n : Nat) (B : List Bx) (i : Nat), i < n → bk (takeB n B) i = bk B i
  | _ + 1, [], _, _ => rfl
  | _ + 1, _ :: _, 0, _ => rfl
  | n + 1, _ :: r, i + 1, h => bk_takeB n r i (by omega)
theorem takeB_self : ∀ (B : List Bx), takeB B.length B = B
  | [] => rfl
  | b :: r => by simp [takeB, takeB_self r]
theorem length_takeB : ∀ (n : Nat) (B : List Bx), (takeB n B).length = min n B.length
  | 0, _ => by simp [takeB]
  | _ + 1, [] => by simp [takeB]
  | n + 1, b :: r => by simp [takeB, length_takeB n r]
theorem lk_append (I D : List (Nat × TV)) (i : Nat) : lk (I ++ D) i = (if i ∈ I.map (·.1) then lk I i else lk D i) := by
  induction I with
  | nil => simp
  | cons p r ih =>
    obtain ⟨j, t⟩ := p
    rw [List.cons_append, lk_cons, lk_cons, ih]
    by_cases h : j = i
    · subst h; simp
    · have : i ≠ j := fun e => h e.symm
      simp only [if_neg h, List.map_cons, List.mem_cons, this, false_or]
theorem lk_notin (D : List (Nat × TV)) (i : Nat) (h : i ∉ D.map (·.1)) : lk D i = .unk := by
  induction D with
  | nil => rfl
  | cons p r ih =>
    obtain ⟨j, t⟩ := p
    simp only [List.map_cons, List.mem_cons, not_or] at h
    rw [lk_cons, if_neg (fun e => h.1 e.symm)]
    exact ih h.2
theorem Mat.lk {I E : List (Nat × TV)} (h : Mat I E) {i : Nat} (hi : i ∈ I.map (·.1)) : lk I i = X.lk E i := by
  induction I with
  | nil => simp at hi
  | cons p r ih =>
    obtain ⟨j, t⟩ := p
    rw [lk_cons]
    by_cases e : j = i
    · subst e; rw [if_pos rfl]; exact h.1.symm
    · rw [if_neg e]
      refine ih h.2 ?_
      simp only [List.map_cons, List.mem_cons] at hi
      exact hi.resolve_left (fun x => e x.symm)
theorem Keep.lk {D E : List (Nat × TV)} (h : Keep D E) {i : Nat} (hi : i ∈ D.map (·.1)) : lk D i = X.lk E i := by
  unfold Keep at h
  obtain ⟨p, hp, rfl⟩ := List.mem_map.1 hi
  exact (List.map_inj_left.1 h p hp).symm
theorem noBx_lk {I : List (Nat × TV)} (h : noBx I = true) (i : Nat) : ∀ j off, lk I i ≠ .bx j off := by
  induction I with
  | nil => intro j off e; cases e
  | cons p r ih =>
    obtain ⟨k, t⟩ := p
    intro j off
    rw [lk_cons]
    have h' : (∀ a b, t ≠ .bx a b) ∧ noBx r = true := by
      cases t <;> simp only [noBx] at h <;> first | (cases h; done) | exact ⟨(fun a b e => by cases e), h⟩
    split
    · exact h'.1 j off
    · exact ih h'.2 j off
theorem drop_lk (wr : List Nat) (E : List (Nat × TV)) (i : Nat) (h : i ∈ (drop wr E).map (·.1)) : lk (drop wr E) i = lk E i := by
  induction E with
  | nil => simp [drop] at h
  | cons p r ih =>
    obtain ⟨j, t⟩ := p
    have mem : ∀ {x}, x ∈ (drop wr r).map (·.1) → memN wr x = false := by
      intro x hx
      clear ih h
      induction r with
      | nil => simp [drop] at hx
      | cons q r ih2 =>
        obtain ⟨k, u⟩ := q
        unfold drop at hx
        cases hm : memN wr k with
        | true => rw [hm] at hx; exact ih2 hx
        | false =>
          rw [hm] at hx
          simp only [List.map_cons, List.mem_cons] at hx
          rcases hx with rfl | hx
          · exact hm
          · exact ih2 hx
    unfold drop at h ⊢
    cases hm : memN wr j with
    | true =>
      rw [hm] at h
      dsimp only at h ⊢
      rw [lk_cons]
      split
      · rename_i e; subst e
        rw [mem h] at hm; cases hm
      · exact ih h
    | false =>
      rw [hm] at h
      dsimp only at h ⊢
      rw [lk_cons, lk_cons]
      split
      · rfl
      · rename_i e
        refine ih ?_
        simp only [List.map_cons, List.mem_cons] at h
        exact h.resolve_left (fun x => e x.symm)
def forceE : List (Nat × TV) → (List (Nat × TV) → Prop) → Prop
  | [], k => k []
  | (i, t) :: r, k => forceE r fun r' => k ((i, t) :: r')
theorem forceE_eq : ∀ (l : List (Nat × TV)) (k : List (Nat × TV) → Prop), forceE l k = k l
  | [], _ => rfl
  | (i, t) :: r, k => by simp [forceE, forceE_eq r]
def forceB : List Bx → (List Bx → Prop) → Prop
  | [], k => k []
  | ⟨b, cs, t⟩ :: r, k => forceB r fun r' => k (⟨b, cs, t⟩ :: r')
theorem forceB_eq : ∀ (l : List Bx) (k : List Bx → Prop), forceB l k = k l
  | [], _ => rfl
  | ⟨b, cs, t⟩ :: r, k => by simp [forceB, forceB_eq r]
@[irreducible] def LOOP (c : Ctx) (body : St → (Exit → St → Prop) → Prop) (wr : List Nat) (S : St) (K : Exit → St → Prop) : Prop :=
  ∃ (γ : Type) (I : γ → List (Nat × TV)) (U : γ → List (Nat × List Value)) (J : γ → World → Prop) (μ : γ → Nat) (g0 : γ),
    noBx (I g0) = true ∧ Mat (I g0) S.E ∧ S.B = updB S.B (U g0) ∧ J g0 S.w ∧
    ∀ g w, Ext c.m c.w0 w → J g w → (forceE (I g ++ drop wr S.E) fun E => forceB (updB S.B (U g)) fun B => body ⟨E, B, w⟩ fun e S' => match e with
      | .normal => ∃ g', noBx (I g') = true ∧ Mat (I g') S'.E ∧ Keep (drop wr S.E) S'.E ∧ takeB S.B.length S'.B = updB S.B (U g') ∧ J g' S'.w ∧ μ g' < μ g
      | e => K e S')
/-- The common case: the boxes that there are at the loop's head are not written in it. -/
theorem LOOP.mk {c : Ctx} {body : St → (Exit → St → Prop) → Prop} {wr : List Nat} {S : St} {K : Exit → St → Prop} (γ : Type) (I : γ → List (Nat × TV)) (J : γ → World → Prop) (μ : γ → Nat) (g0 : γ)
    (h0 : noBx (I g0) = true) (h1 : Mat (I g0) S.E) (h2 : J g0 S.w)
    (h3 : ∀ g w, Ext c.m c.w0 w → J g w → (forceE (I g ++ drop wr S.E) fun E => body ⟨E, S.B, w⟩ fun e S' => match e with
      | .normal => ∃ g', noBx (I g') = true ∧ Mat (I g') S'.E ∧ Keep (drop wr S.E) S'.E ∧ takeB S.B.length S'.B = S.B ∧ J g' S'.w ∧ μ g' < μ g
      | e => K e S')) : LOOP c body wr S K := by
  unfold LOOP
  exact ⟨γ, I, fun _ => [], J, μ, g0, h0, h1, rfl, h2, fun g w e j => by have := h3 g w e j; rw [forceE_eq] at this ⊢; rw [forceB_eq]; exact this⟩
theorem LOOP.mkU {c : Ctx} {body : St → (Exit → St → Prop) → Prop} {wr : List Nat} {S : St} {K : Exit → St → Prop} (γ : Type) (I : γ → List (Nat × TV)) (U : γ → List (Nat × List Value)) (J : γ → World → Prop) (μ : γ → Nat) (g0 : γ)
    (h0 : noBx (I g0) = true) (h1 : Mat (I g0) S.E) (hu : S.B = updB S.B (U g0)) (h2 : J g0 S.w)
    (h3 : ∀ g w, Ext c.m c.w0 w → J g w → (forceE (I g ++ drop wr S.E) fun E => forceB (updB S.B (U g)) fun B => body ⟨E, B, w⟩ fun e S' => match e with
      | .normal => ∃ g', noBx (I g') = true ∧ Mat (I g') S'.E ∧ Keep (drop wr S.E) S'.E ∧ takeB S.B.length S'.B = updB S.B (U g') ∧ J g' S'.w ∧ μ g' < μ g
      | e => K e S')) : LOOP c body wr S K := by
  unfold LOOP
  exact ⟨γ, I, U, J, μ, g0, h0, h1, hu, h2, h3⟩
/-- from the round's end to the next round's head. -/
theorem Ok.head {c : Ctx} {S S' : St} {a : Act} {I : List (Nat × TV)} {U : List (Nat × List Value)} {wr : List Nat} (hE : ∀ i, good S.B (lk S.E i)) (hk : Ok c S' a) (h0 : noBx I = true) (h1 : Mat I S'.E) (h2 : Keep (drop wr S.E) S'.E)
    (h3 : takeB S.B.length S'.B = updB S.B U) : Ok c ⟨I ++ drop wr S.E, updB S.B U, S'.w⟩ a := by
  have hlen : S.B.length ≤ S'.B.length := by
    have := congrArg List.length h3
    rw [length_takeB, length_updB] at this
    omega
  have hb : ∀ i, i < S.B.length → bk (updB S.B U) i = bk S'.B i := by
    intro i hi
    rw [← h3, bk_takeB _ _ _ hi]
  have hden : ∀ t, good S.B t → den (updB S.B U) t = den S'.B t := by
    intro t ht
    cases t <;> first | rfl | (simp only [den]; rw [hb _ ht])
  have hlk : ∀ i, lk (I ++ drop wr S.E) i ≠ .unk → lk (I ++ drop wr S.E) i = lk S'.E i ∧ good S.B (lk (I ++ drop wr S.E) i) := by
    intro i hi
    rw [lk_append] at hi ⊢
    split
    · rename_i hm
      have e := h1.lk hm
      refine ⟨e, ?_⟩
      have hg := hk.reads.2.2.1 i
      rw [← e] at hg
      cases ht : lk I i <;> rw [ht] at hg <;> first | exact hg | exact absurd ht (noBx_lk h0 i _ _)
    · rename_i hm
      rw [if_neg hm] at hi
      have hd : i ∈ (drop wr S.E).map (·.1) := by
        by_cases hd : i ∈ (drop wr S.E).map (·.1)
        · exact hd
        · exact absurd (lk_notin _ _ hd) hi
      exact ⟨h2.lk hd, by rw [drop_lk _ _ _ hd]; exact hE i⟩
  refine ⟨⟨hk.reads.1, hk.reads.2.1, ?_, ?_⟩, ?_, ?_, ?_, hk.ext⟩
  · intro i
    by_cases h : lk (I ++ drop wr S.E) i = .unk
    · show good (updB S.B U) (lk (I ++ drop wr S.E) i)
      rw [h]; trivial
    · exact good_len (hlk i h).2 (by rw [length_updB]; exact Nat.le_refl _)
  · intro i hi
    obtain ⟨e, hg⟩ := hlk i hi
    show _ = den (updB S.B U) (lk (I ++ drop wr S.E) i)
    rw [hden _ hg, e]
    exact hk.reads.2.2.2 i (e ▸ hi)
  · intro i (hi : i < (updB S.B U).length)
    rw [length_updB] at hi
    show S'.w.heap[(bk (updB S.B U) i).blk]? = some (.cells (bk (updB S.B U) i).cells.toArray (bk (updB S.B U) i).ty (0, 0))
    rw [hb i hi]; exact hk.boxes i (by omega)
  · intro i (hi : i < (updB S.B U).length)
    rw [length_updB] at hi
    show c.w0.heap.size ≤ (bk (updB S.B U) i).blk
    rw [hb i hi]; exact hk.own i (by omega)
  · intro i j (hi : i < (updB S.B U).length) (hj : j < (updB S.B U).length) hij
    rw [length_updB] at hi hj
    show (bk (updB S.B U) i).blk ≠ (bk (updB S.B U) j).blk
    rw [hb i hi, hb j hj]; exact hk.apart i j (by omega) (by omega) hij

/-! ### where ways meet again -/
def anyGuard : List Oper → Bool
  | [] => false
  | o :: r => match o.guard with
    | some _ => true
    | none => anyGuard r
def splits : Code → Bool
  | .region _ ops _ => anyGuard ops.toList
  | .seq a b => match splits a with | true => true | false => splits b
  | .cond _ _ _ => true
  | .block _ a => splits a
  | _ => false
/-- what follows, behind a name that unfolds by a lemma alone. -/
structure NEXTK (vy : St → (Exit → St → Prop) → Prop) (K : Exit → St → Prop) (e : Exit) (S : St) : Prop where
  out : match e with
    | .normal => vy S K
    | e => K e S
theorem NEXTK.normal {vy : St → (Exit → St → Prop) → Prop} {K : Exit → St → Prop} {S : St} (h : vy S K) : NEXTK vy K .normal S := ⟨h⟩
theorem NEXTK.ret {vy : St → (Exit → St → Prop) → Prop} {K : Exit → St → Prop} {S : St} (h : K .ret S) : NEXTK vy K .ret S := ⟨h⟩
theorem NEXTK.exit {vy : St → (Exit → St → Prop) → Prop} {K : Exit → St → Prop} {S : St} {i : Nat} (h : K (.exit i) S) : NEXTK vy K (.exit i) S := ⟨h⟩
theorem NEXTK_eq (vy : St → (Exit → St → Prop) → Prop) (K : Exit → St → Prop) : NEXTK vy K = fun e S => match e with
  | .normal => vy S K
  | e => K e S := by
  funext e S
  exact propext ⟨fun h => h.out, fun h => ⟨h⟩⟩
@[irreducible] def SEQ (c : Ctx) (vx vy : St → (Exit → St → Prop) → Prop) (wr : List Nat) (S : St) (K : Exit → St → Prop) : Prop :=
  vx S (NEXTK vy K) ∨
  ∃ (γ : Type) (I : γ → List (Nat × TV)) (J : γ → World → Prop),
    (vx S fun e S' => match e with
      | .normal => ∃ g, noBx (I g) = true ∧ Mat (I g) S'.E ∧ Keep (drop wr S.E) S'.E ∧ takeB S.B.length S'.B = S.B ∧ J g S'.w
      | e => K e S') ∧
    ∀ g w, Ext c.m c.w0 w → J g w → forceE (I g ++ drop wr S.E) fun E => vy ⟨E, S.B, w⟩ K
theorem SEQ.plain {c : Ctx} {vx vy : St → (Exit → St → Prop) → Prop} {wr : List Nat} {S : St} {K : Exit → St → Prop} (h : vx S (NEXTK vy K)) : SEQ c vx vy wr S K := by
  unfold SEQ; exact .inl h
theorem SEQ.join {c : Ctx} {vx vy : St → (Exit → St → Prop) → Prop} {wr : List Nat} {S : St} {K : Exit → St → Prop} (γ : Type) (I : γ → List (Nat × TV)) (J : γ → World → Prop)
    (h1 : vx S fun e S' => match e with
      | .normal => ∃ g, noBx (I g) = true ∧ Mat (I g) S'.E ∧ Keep (drop wr S.E) S'.E ∧ takeB S.B.length S'.B = S.B ∧ J g S'.w
      | e => K e S')
    (h2 : ∀ g w, Ext c.m c.w0 w → J g w → forceE (I g ++ drop wr S.E) fun E => vy ⟨E, S.B, w⟩ K) : SEQ c vx vy wr S K := by
  unfold SEQ; exact .inr ⟨γ, I, J, h1, h2⟩

/-! ### codes -/
def vc (c : Ctx) : Code → St → (Exit → St → Prop) → Prop
  | .skip, S, K => K .normal S
  | .region id ops draw, S, K => match draw with
    | false => vcS c ops.toList ops.toList S fun S' => K .normal S'
    | true => DRAW c id ops S fun S' => K .normal S'
  | .seq x y, S, K => match splits x with
    | true => SEQ c (vc c x) (vc c y) (wrs x []) S K
    | false => vc c x S (NEXTK (vc c y) K)
  | .cond x p q, S, K => match ev S.E x with
    | .tt => vc c p S K
    | .ff => vc c q S K
    | .v (.bool b) => BIF b (vc c p S K) (vc c q S K)
    | _ => False
  | .block id x, S, K => vc c x S fun e S' => match e with
    | .exit i => match Nat.beq i id with
      | true => K .normal S'
      | false => K (.exit i) S'
    | e => K e S'
  | .loop x, S, K => LOOP c (vc c x) (wrs x []) S K
  | .exit i, S, K => K (.exit i) S
  | .ret, S, K => K .ret S
  | _, _, _ => False
def Post (c : Ctx) (K : Exit → St → Prop) (e : Exit) (a : Act) (w : World) : Prop := ∃ S', K e S' ∧ Ok c S' a ∧ S'.w = w
theorem vc_sound {c : Ctx} : ∀ (code : Code) (S : St) (a : Act) (K : Exit → St → Prop), Ok c S a → vc c code S K → code.wp c.P (Post c K) a S.w
  | .skip, S, a, K, hk, h => wp_skip ⟨S, h, hk, rfl⟩
  | .region id ops draw, S, a, K, hk, h => by
    cases draw with
    | false =>
      unfold vc at h
      have := vcS_sound (Q := Post c K) (fun S' a' h1 h2 => ⟨S', h1, h2, rfl⟩) ops.toList S a hk h
      rw [show ops.toList.toArray = ops from by simp] at this
      exact wp_region_list this
    | true =>
      unfold vc at h
      exact wp_mono (DRAW.elim h a hk) fun e a' w' ⟨he, S', h1, h2, h3⟩ => by subst he; exact ⟨S', h1, h2, h3⟩
  | .seq x y, S, a, K, hk, h => by
    have plain : vc c x S (NEXTK (vc c y) K) → (Code.seq x y).wp c.P (Post c K) a S.w := by
      intro h
      rw [NEXTK_eq] at h
      refine wp_seq (wp_mono (vc_sound x S a _ hk h) ?_)
      rintro e a' w' ⟨S', h1, h2, rfl⟩
      cases e with
      | normal => exact vc_sound y S' a' K h2 h1
      | exit i => exact ⟨S', h1, h2, rfl⟩
      | goto l => exact ⟨S', h1, h2, rfl⟩
      | ret => exact ⟨S', h1, h2, rfl⟩
      | panic ch => exact ⟨S', h1, h2, rfl⟩
      | outgrown => exact ⟨S', h1, h2, rfl⟩
    unfold vc at h
    split at h
    · unfold SEQ at h
      rcases h with h | ⟨γ, I, J, h1, h2⟩
      · exact plain h
      · refine wp_seq (wp_mono (vc_sound x S a _ hk h1) ?_)
        rintro e a' w' ⟨S', p1, p2, rfl⟩
        cases e with
        | normal =>
          obtain ⟨g, q0, q1, q2, q3, q4⟩ := p1
          have ok := p2.head (S := S) (U := []) hk.reads.2.2.1 q0 q1 q2 q3
          have h3 := h2 g S'.w ok.ext q4
          rw [forceE_eq] at h3
          exact vc_sound y ⟨I g ++ drop (wrs x []) S.E, S.B, S'.w⟩ a' K ok h3
        | exit i => exact ⟨S', p1, p2, rfl⟩
        | goto l => exact ⟨S', p1, p2, rfl⟩
        | ret => exact ⟨S', p1, p2, rfl⟩
        | panic ch => exact ⟨S', p1, p2, rfl⟩
        | outgrown => exact ⟨S', p1, p2, rfl⟩
    · exact plain h
  | .cond x p q, S, a, K, hk, h => by
    unfold vc at h
    split at h
    · rename_i hx
      have hxe := hk.reads.eval x (by rw [hx]; simp)
      rw [hx] at hxe
      exact wp_cond (t := true) hxe (vc_sound p S a K hk h)
    · rename_i hx
      have hxe := hk.reads.eval x (by rw [hx]; simp)
      rw [hx] at hxe
      exact wp_cond (t := false) hxe (vc_sound q S a K hk h)
    · rename_i b hx
      have hxe := hk.reads.eval x (by rw [hx]; simp)
      rw [hx] at hxe
      rcases BIF.elim h with ⟨rfl, h1⟩ | ⟨rfl, h1⟩
      · exact wp_cond (t := true) hxe (vc_sound p S a K hk h1)
      · exact wp_cond (t := false) hxe (vc_sound q S a K hk h1)
    · exact h.elim
  | .block id x, S, a, K, hk, h => by
    unfold vc at h
    refine wp_block (wp_mono (vc_sound x S a _ hk h) ?_)
    rintro e a' w' ⟨S', h1, h2, rfl⟩
    cases e with
    | exit i =>
      simp only [Exit.inBlock]
      split
      · rename_i e
        subst e
        have : Nat.beq i i = true := Nat.beq_refl i
        simp only [this] at h1
        exact ⟨S', h1, h2, rfl⟩
      · rename_i e
        have : Nat.beq i id = false := by
          cases hb : Nat.beq i id with
          | false => rfl
          | true => exact absurd (Nat.eq_of_beq_eq_true hb) e
        simp only [this] at h1
        exact ⟨S', h1, h2, rfl⟩
    | normal => exact ⟨S', h1, h2, rfl⟩
    | goto l => exact ⟨S', h1, h2, rfl⟩
    | ret => exact ⟨S', h1, h2, rfl⟩
    | panic ch => exact ⟨S', h1, h2, rfl⟩
    | outgrown => exact ⟨S', h1, h2, rfl⟩
  | .loop x, S, a, K, hk, h => by
    unfold vc at h
    unfold LOOP at h
    obtain ⟨γ, I, U, J, μ, g0, h0, h1, h2, h3, h4⟩ := h
    refine wp_loop_ghost (fun n a w => ∃ g, μ g ≤ n ∧ J g w ∧ Ok c ⟨I g ++ drop (wrs x []) S.E, updB S.B (U g), w⟩ a) (μ g0) ⟨g0, Nat.le_refl _, h3, ?_⟩ ?_
    · refine hk.head (S := S) hk.reads.2.2.1 h0 h1 ?_ ?_
      · unfold Keep
        exact List.map_inj_left.2 fun p hp => (drop_lk _ _ _ (List.mem_map.2 ⟨p, hp, rfl⟩)).symm
      · rw [takeB_self, ← h2]
    · rintro n a w ⟨g, hn, hj, hg⟩
      have h5 := h4 g w hg.ext hj
      rw [forceE_eq, forceB_eq] at h5
      refine wp_mono (vc_sound x _ a _ hg h5) ?_
      rintro e a' w' ⟨S', p1, p2, rfl⟩
      cases e with
      | normal =>
        obtain ⟨g', q0, q1, q2, q3, q4, q5⟩ := p1
        exact ⟨μ g', by omega, g', Nat.le_refl _, q4, p2.head (S := S) hk.reads.2.2.1 q0 q1 q2 q3⟩
      | exit i => exact ⟨S', p1, p2, rfl⟩
      | goto l => exact ⟨S', p1, p2, rfl⟩
      | ret => exact ⟨S', p1, p2, rfl⟩
      | panic ch => exact ⟨S', p1, p2, rfl⟩
      | outgrown => exact ⟨S', p1, p2, rfl⟩
  | .exit i, S, a, K, hk, h => wp_exit ⟨S, h, hk, rfl⟩
  | .ret, S, a, K, hk, h => wp_ret ⟨S, h, hk, rfl⟩

/-! ### the entry -/
def initE : Nat → List Value → List (Nat × TV)
  | _, [] => []
  | i, x :: r => (i, .v x) :: initE (i + 1) r
def resK (P : Program) (S : St) : List ResultVar → (List Value → Prop) → Prop
  | [], k => k []
  | .tmp t :: r, k => valOf S.B (lk S.E t) fun v => resK P S r fun vs => k (v :: vs)
  | .cell t ty :: r, k => match lk S.E t with
    | .bx i off => takeT P ty ((bk S.B i).cells.drop off) fun tv => match tv with
      | .v v => resK P S r fun vs => k (v :: vs)
      | _ => False
    | _ => False
def resV : List Value → Value
  | [v] => v
  | vs => .tuple vs.toArray
def retK (P : Program) (rs : List ResultVar) (m : Nat → Prop) (w0 : World) (R : Ending → World → Prop) (e : Exit) (S : St) : Prop :=
  match e with
  | .normal => resK P S rs fun vs => Ext m w0 S.w → R (.returned (resV vs)) S.w
  | .ret => resK P S rs fun vs => Ext m w0 S.w → R (.returned (resV vs)) S.w
  | _ => False
def resOne (tmps : Array Value) : ResultVar → Sem Value
  | .tmp t => Pure.pure (tmps.getD t undef)
  | .cell p t => do loadVar t (← asAddr (tmps.getD p undef))
theorem resK_elim {c : Ctx} {S : St} {a : Act} (hk : Ok c S a) : ∀ (l : List ResultVar) (k : List Value → Prop), resK c.P S l k →
    ∃ vs, k vs ∧ (l.mapM (resOne a.tmps)).run c.P S.w = Result.ok vs S.w
  | [], k, h => ⟨[], h, rfl⟩
  | .tmp t :: r, k, h => by
    obtain ⟨h1, h2⟩ := valOf_elim h
    obtain ⟨vs, h3, h4⟩ := resK_elim hk r _ h2
    refine ⟨_, h3, ?_⟩
    rw [List.mapM_cons]
    simp [resOne, h4, hk.reads.2.2.2 t h1]
  | .cell p ty :: r, k, h => by
    unfold resK at h
    split at h
    · rename_i i off hx
      obtain ⟨v, h1, h2⟩ := takeT_sound h
      obtain ⟨vs, h3, h4⟩ := resK_elim hk r _ h1
      refine ⟨_, h3, ?_⟩
      have hi : i < S.B.length := by have := hk.reads.2.2.1 p; rw [hx] at this; exact this
      have hp := hk.reads.2.2.2 p (by rw [hx]; simp)
      rw [hx] at hp
      have h5 := h2 S.w ⟨(bk S.B i).blk, off, none⟩ (fun j u hu => by
        rw [List.getElem?_drop] at hu
        rw [Addr.add_lit]
        simp [World.cell?, hk.boxes i hi, hu])
      rw [List.mapM_cons]
      simp [resOne, h4, hp, den, asAddr, h5]
    · exact h.elim
theorem enter {P : Program} {f : FuncId} {fn : Func} {code : Code} {args : Array Value} {w : World} {R : Ending → World → Prop} (m : Nat → Prop) {fr : Nat} (hf : P.funcs[f]? = some fn) (hb : fn.body = some code) (hs : Nat.ble args.size fn.ntmps = true)
    (h : forceE (initE 0 args.toList) fun E => vc ⟨P, m, w, fn.ntmps, fr⟩ code ⟨E, [], w⟩ (retK P fn.results.toList m w R)) : Calls P f args w R := by
  rw [forceE_eq] at h
  have hs := Nat.le_of_ble_eq_true hs
  have init : ∀ (l : List Value) (k i : Nat), lk (initE k l) i ≠ .unk → ∃ v, lk (initE k l) i = .v v ∧ k ≤ i ∧ l[i - k]? = some v := by
    intro l
    induction l with
    | nil => intro k i h; exact absurd rfl h
    | cons x r ih =>
      intro k i h
      simp only [initE] at h ⊢
      rw [lk_cons] at h ⊢
      split
      · rename_i e; subst e; exact ⟨x, rfl, Nat.le_refl _, by simp⟩
      · rename_i e
        rw [if_neg e] at h
        obtain ⟨v, h1, h2, h3⟩ := ih (k + 1) i h
        refine ⟨v, h1, by omega, ?_⟩
        rw [show i - k = (i - (k + 1)) + 1 from by omega]
        simpa using h3
  have ok : Ok ⟨P, m, w, fn.ntmps, fr⟩ ⟨initE 0 args.toList, [], w⟩ { tmps := args ++ Array.replicate (fn.ntmps - args.size) undef, defers := [] } := by
    refine ⟨⟨rfl, by simp; omega, fun i => ?_, fun i hi => ?_⟩, fun i hi => by simp at hi, fun i hi => by simp at hi, fun i j hi => by simp at hi, Ext.refl _ _⟩
    · by_cases h : lk (initE 0 args.toList) i = .unk
      · show good [] (lk (initE 0 args.toList) i); rw [h]; trivial
      · obtain ⟨v, h1, _⟩ := init _ _ _ h
        show good [] (lk (initE 0 args.toList) i); rw [h1]; trivial
    · obtain ⟨v, h1, _, h3⟩ := init _ _ _ hi
      show _ = den [] (lk (initE 0 args.toList) i)
      rw [h1]
      simp only [Nat.sub_zero, Array.getElem?_toList] at h3
      have hlt : i < args.size := by
        rcases Nat.lt_or_ge i args.size with h | h
        · exact h
        · rw [Array.getElem?_eq_none h] at h3; cases h3
      rw [Array.getD_eq_getD_getElem?, Array.getElem?_append_left hlt, h3]
      rfl
  refine calls_of_wp hf hb (wp_mono (vc_sound code _ _ _ ok h) ?_)
  have fin : ∀ (S : St) (a : Act), Ok ⟨P, m, w, fn.ntmps, fr⟩ S a → (resK P S fn.results.toList fun vs => Ext m w S.w → R (.returned (resV vs)) S.w) → a.defers = [] ∧ ∃ v, (results fn a.tmps).run P S.w = .ok v S.w ∧ R (.returned v) S.w := by
    intro S a hk h
    obtain ⟨vs, h1, h2⟩ := resK_elim hk _ _ h
    refine ⟨hk.reads.1, _, ?_, h1 hk.ext⟩
    have h2' : (fn.results.mapM (resOne a.tmps)).run P S.w = Result.ok vs.toArray S.w := by
      have : fn.results = fn.results.toList.toArray := by simp
      rw [this, List.mapM_toArray]
      simp only [Sem.run_map]
      rw [h2]; rfl
    have e : results fn a.tmps = (do let vs ← fn.results.mapM (resOne a.tmps); pure (if h : vs.size = 1 then vs[0] else .tuple vs)) := by
      unfold results
      congr 1
    rw [e, Sem.run_bind, h2']
    simp only [Result.andThen_ok, Sem.run_pure]
    congr 1
    match vs with
    | [] => rfl
    | [v] => rfl
    | a :: b :: r => simp [resV]
  rintro e a' w' ⟨S', h1, h2, rfl⟩
  cases e with
  | normal => exact fin S' a' h2 h1
  | ret => exact fin S' a' h2 h1
  | exit i => exact h1.elim
  | goto l => exact h1.elim
  | panic ch => exact h1.elim
  | outgrown => exact h1.elim

end Go.X

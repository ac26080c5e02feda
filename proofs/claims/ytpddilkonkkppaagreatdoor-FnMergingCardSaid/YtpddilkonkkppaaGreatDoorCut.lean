/- Part 14: a region of open order whose loads are taken first; what a region leaves, told anew. -/
import Derived.Test.YtpddilkonkkppaaGreatDoorMore
import Derived.OrdersHeld
namespace Go.X
open Go Go.RowKit

/-- a state that knows less. -/
theorem Ok.weak {c : Ctx} {S : St} {a : Act} (h : Ok c S a) {E : List (Nat × TV)} (hE : ∀ i, lk E i = .unk ∨ lk E i = lk S.E i) : Ok c ⟨E, S.B, S.w⟩ a := by
  refine ⟨⟨h.reads.1, h.reads.2.1, fun i => ?_, fun i hi => ?_⟩, h.boxes, h.own, h.apart, h.ext⟩
  · rcases hE i with e | e
    · rw [e]; trivial
    · rw [e]; exact h.reads.2.2.1 i
  · rcases hE i with e | e
    · exact absurd e hi
    · rw [e] at hi ⊢
      exact h.reads.2.2.2 i hi
theorem RUNL.lit {vs : List Value} {run : World → Result Next} {k : Value → Prop} (v : Value) (h : ∀ w, run w = .ok (.value v) w) (hk : k v) : RUNL vs run k := ⟨RUN.mk h hk⟩
def appB : List Bx → List Bx → List Bx
  | [], l => l
  | b :: r, l => b :: appB r l
theorem DRAW.cut {c : Ctx} {id : Nat} {ops : Array Oper} {E : List (Nat × TV)} {B : List Bx} {w : World} {K : St → Prop} (γ : Type) (I : γ → List (Nat × TV)) (U : γ → List (Nat × List Value)) (Nw : γ → List Bx) (J : γ → World → Prop)
    (h1 : DRAW c id ops ⟨E, B, w⟩ fun S' => ∃ g, Mat (I g) S'.E ∧ Keep (drop (wrsOps ops.toList []) E) S'.E ∧ S'.B = appB (updB B (U g)) (Nw g) ∧ J g S'.w)
    (h2 : ∀ g w', J g w' → forceE (I g ++ drop (wrsOps ops.toList []) E) fun E' => forceB (appB (updB B (U g)) (Nw g)) fun B' => K ⟨E', B', w'⟩) : DRAW c id ops ⟨E, B, w⟩ K := by
  refine DRAW.raw fun a hk => wp_mono (h1.elim a hk) fun e a' w' ⟨he, S', ⟨g, hm, hkp, hb, hj⟩, hok, hw⟩ => ?_
  subst he
  have h3 := h2 g w' (hw ▸ hj)
  rw [forceE_eq, forceB_eq] at h3
  refine ⟨rfl, _, h3, ?_, rfl⟩
  have := hok.weak (E := I g ++ drop (wrsOps ops.toList []) E) fun i => by
    rw [lk_append]
    split
    · rename_i hi
      exact .inr (hm.lk hi)
    · by_cases hd : i ∈ (drop (wrsOps ops.toList []) E).map (·.1)
      · exact .inr (hkp.lk hd)
      · exact .inl (lk_notin _ _ hd)
  rw [hb, hw] at this
  exact this

/-! ### loads taken first -/
def offM (M : Nat → Prop) (S : St) (op : Op) (p : Prop) : Prop :=
  match op with
  | .load _ x => match ev S.E x with
    | .bx i _ => ¬ M (bk S.B i).blk ∧ p
    | .el sa _ _ _ => ¬ mAddr M sa ∧ p
    | .v (.pointer (some ad)) => ¬ M ad.block ∧ p
    | _ => False
  | _ => p
def ShownM (M : Nat → Prop) (P : Program) (S : St) (a : Act) (o : Oper) (k : TV → Prop) : Prop :=
  ∃ tv v, k tv ∧ (tv ≠ .unk → v = den S.B tv) ∧ good S.B tv ∧ ∀ w', (isLd o.op = false ∨ Ext M S.w w') → (execOp a.eval o).run P w' = .ok (.value v) w'
theorem loadM_sound {M : Nat → Prop} {P : Program} {m : Nat → Prop} {w0 : World} {N : Nat} {S : St} {a : Act} {o : Oper} {k : TV → Prop} {t : TypeId} {x : Operand} (hr : Reads N S.E S.B a) (hb : Boxes S) (he : Ext m w0 S.w)
    (ho : o.op = .load t x) (h : offM M S o.op (loadv P m w0 S t (ev S.E x) k)) : ShownM M P S a o k := by
  obtain ⟨d, op, ty, pos, af, g⟩ := o
  dsimp only at ho
  subst ho
  have key : ∀ (p : Addr) (v : Value), a.eval x = .pointer (some p) → k (.v v) → (∀ w', Ext M S.w w' → (loadVar t p).run P w' = .ok v w') → ShownM M P S a ⟨d, .load t x, ty, pos, af, g⟩ k := by
    intro p v hx hk hv
    refine ⟨_, _, hk, fun _ => rfl, trivial, fun w' e => ?_⟩
    have e : Ext M S.w w' := e.resolve_left (by simp [isLd])
    simp [execOp, Instr.loadAt, Instr.sureAddr, hx, hv w' e, den]
  unfold offM at h
  dsimp only at h
  unfold loadv at h
  cases hx : ev S.E x with
  | bx i off =>
    rw [hx] at h
    obtain ⟨hM, h⟩ := h
    obtain ⟨v, h1, h2⟩ := takeT_sound h
    refine key ⟨(bk S.B i).blk, off, none⟩ v (by rw [hr.eval x (by rw [hx]; simp), hx]; rfl) h1 fun w' e => h2 w' _ fun j u hu => ?_
    have hi : i < S.B.length := by
      rcases Nat.lt_or_ge i S.B.length with h | h
      · exact h
      · rw [bk_none _ _ h] at hu; simp at hu
    rw [List.getElem?_drop] at hu
    rw [Addr.add_lit]
    have := Ext.heap e (hb i hi) hM
    simp [World.cell?, this, hu]
  | el sa i sz off =>
    rw [hx] at h
    obtain ⟨hM, h⟩ := h
    obtain ⟨ls, c, h1, h2, h3⟩ := ELD.elim h
    obtain ⟨v, h4, h5⟩ := takeT_sound h3
    have h6 := h1.now he
    obtain ⟨h7, ad, rfl, h8⟩ := h6 _ _ h2
    refine key ((ad.add (i.toNat * sz)).add off) v (by rw [hr.eval x (by rw [hx]; simp), hx]; rfl) h4 fun w' e => h5 w' _ fun j u hu => ?_
    rw [List.getElem?_drop] at hu
    rw [Addr.add_add]
    exact Ext.cell e (h8 _ _ hu) (by rw [Addr.add_block, Addr.add_block]; exact hM)
  | v y =>
    rw [hx] at h
    cases y with
    | pointer p =>
      cases p with
      | none => exact h.elim
      | some ad =>
        obtain ⟨hM, h⟩ := h
        dsimp only at h
        split at h
        · exact h.elim
        rename_i sz hsz
        obtain ⟨ls, c, h1, h2, h3⟩ := ELD.elim h
        obtain ⟨v, h4, h5⟩ := takeT_sound h3
        have h6 := h1.now he
        obtain ⟨h7, ad', e', h8⟩ := h6 _ _ h2
        cases e'
        refine key ad v (by rw [hr.eval x (by rw [hx]; simp), hx]; rfl) h4 fun w' e => h5 w' _ fun j u hu => ?_
        have := h8 _ _ hu
        simp only [Int.toNat_zero, Nat.zero_mul] at this
        rw [show ad.add 0 = ad from by simp [Go.Addr.add]] at this
        exact Ext.cell e this (by rw [Addr.add_block]; exact hM)
    | _ => exact h.elim
  | _ => rw [hx] at h; exact h.elim
theorem qopM_sound {M : Nat → Prop} {P : Program} {m : Nat → Prop} {w0 : World} {N : Nat} {S : St} {a : Act} {o : Oper} {k : TV → Prop} (hr : Reads N S.E S.B a) (hb : Boxes S) (he : Ext m w0 S.w)
    (h : offM M S o.op (qop P m w0 S o.op o.type k)) : ShownM M P S a o k := by
  cases hld : isLd o.op with
  | false =>
    have h' : qop P m w0 S o.op o.type k := by
      unfold offM at h
      split at h
      · rename_i t x ho; rw [ho] at hld; cases hld
      · exact h
    obtain ⟨tv, v, h1, h2, h3, h4⟩ := qop_sound hr hb he h'
    exact ⟨tv, v, h1, h2, h3, fun w' _ => h4 w' (.inl hld)⟩
  | true =>
    cases ho : o.op with
    | load t x =>
      refine loadM_sound hr hb he ho ?_
      rw [ho] at h ⊢
      have e : ∀ ty, qop P m w0 S (.load t x) ty k = loadv P m w0 S t (ev S.E x) k := fun ty => by unfold qop; simp only [forceT_eq]
      rw [e] at h
      exact h
    | _ => rw [ho] at hld; cases hld
def firstAt (ops : Array Oper) (i : Nat) : Bool :=
  match ops[i]? with
  | some o => isPure o.op || isLd o.op
  | none => false
def okH (ops : Array Oper) (p : Plan) : List Nat → Nat → List Bool → Bool
  | [], f, ls => okP ops p false f ls
  | i :: r, f, ls => Nat.blt 0 f && firstAt ops i && Region.free .any ops ls.toArray i && (Region.ready .any ops ls.toArray).contains i && okH ops p r (f - 1) (ls.set i true)
def vcM (SS : World → Prop) (c : Ctx) (ops : Array Oper) : Plan → St → (St → Prop) → Prop
  | .done, S, K => K S
  | .stop, _, _ => True
  | .one i p, S, K => match ops.toList[i]? with
    | some o => guardK ops.toList o S (fun S => qop c.P c.m c.w0 S o.op o.type fun tv => putK c.N S o.dst tv fun S => vcM SS c ops p S K) (fun S => putK c.N S o.dst (.v undef) fun S => vcM SS c ops p S K)
    | none => False
  | .start q, S, K => vcM SS c ops q S K
  | .alt i p q, S, K => (match ops.toList[i]? with
    | some o => guardK ops.toList o S (fun S => sstep c S o fun S => SS S.w ∧ vcM SS c ops p S K) (fun S => putK c.N S o.dst (.v undef) fun S => vcM SS c ops p S K)
    | none => False) ∧ vcM SS c ops q S K
def vcH (M : Nat → Prop) (wS : World) (c : Ctx) (ops : Array Oper) (p : Plan) : List Nat → St → (St → Prop) → Prop
  | [], S, K => vcM (Ext M wS) c ops p S K
  | i :: r, S, K => match ops.toList[i]? with
    | some o => guardK ops.toList o S (fun S => offM M S o.op (qop c.P c.m c.w0 S o.op o.type fun tv => putK c.N S o.dst tv fun S => vcH M wS c ops p r S K)) (fun S => putK c.N S o.dst (.v undef) fun S => vcH M wS c ops p r S K)
    | none => False
theorem altM_mem {SS : World → Prop} {c : Ctx} {ops : Array Oper} {S : St} {K : St → Prop} {f : Nat} {ls : List Bool} {i : Nat} : ∀ {q : Plan}, vcM SS c ops q S K → okP ops q true f ls = true → i ∈ alts q →
    ∃ p, SizeOf.sizeOf p < SizeOf.sizeOf q ∧ okP ops p false (f - 1) (ls.set i true) = true ∧ (match ops.toList[i]? with
    | some o => guardK ops.toList o S (fun S => sstep c S o fun S => SS S.w ∧ vcM SS c ops p S K) (fun S => putK c.N S o.dst (.v undef) fun S => vcM SS c ops p S K)
    | none => False)
  | .alt j p q, h, ho, hi => by
    unfold vcM at h
    unfold okP at ho
    simp only [Bool.true_and, Bool.and_eq_true] at ho
    rcases List.mem_cons.1 hi with rfl | hi
    · exact ⟨p, by simp only [Plan.alt.sizeOf_spec]; omega, ho.1, h.1⟩
    · obtain ⟨p', h1, h2, h3⟩ := altM_mem h.2 ho.2 hi
      exact ⟨p', by simp only [Plan.alt.sizeOf_spec]; omega, h2, h3⟩
theorem vcM_sound {SS : World → Prop} {c : Ctx} {ops : Array Oper} {K : St → Prop} {Q : Exit → Act → World → Prop} (hs : Region.noSelect ops = true) (hp : ∀ ch a w, ¬ Q (.panic ch) a w) (hQ : ∀ S a, K S → Ok c S a → Q .normal a S.w) : ∀ (plan : Plan) (fuel : Nat) (listed : List Bool) (S : St) (a : Act), Ok c S a → SS S.w → okP ops plan false fuel listed = true → vcM SS c ops plan S K → wpAnyH c.P .any ops Q SS fuel listed.toArray a S.w
  | .done, fuel, listed, S, a, hk, _, ho, h => by
    unfold okP at ho
    simp only [Bool.not_false, Bool.true_and, List.isEmpty_iff] at ho
    exact wpAnyH_done ho (hQ S a h hk) _
  | .stop, _, _, _, _, _, _, ho, _ => by simp [okP] at ho
  | .alt .., _, _, _, _, _, _, ho, _ => by simp [okP] at ho
  | .one i p, fuel, listed, S, a, hk, hS, ho, h => by
    unfold okP at ho
    simp only [Bool.not_false, Bool.true_and, Bool.and_eq_true] at ho
    obtain ⟨⟨⟨⟨hf, hpure⟩, hfree⟩, hmem⟩, ho⟩ := ho
    obtain ⟨fuel, rfl⟩ : ∃ g, fuel = g + 1 := ⟨fuel - 1, by have := Nat.le_of_ble_eq_true hf; omega⟩
    unfold vcM at h
    unfold pureAt at hpure
    cases hoi : ops[i]? with
    | none => rw [hoi] at hpure; cases hpure
    | some o =>
      rw [hoi] at hpure
      rw [show ops.toList[i]? = some o from by rw [Array.getElem?_toList]; exact hoi] at h
      dsimp only at h hpure
      obtain ⟨S', hk', hw', hB', h⟩ := guardK_elim hk h
      rw [show ops.toList.toArray = ops from by simp] at h
      have hld : isLd o.op = false := by cases hop : o.op <;> rw [hop] at hpure <;> first | rfl | cases hpure
      have set' : (listed.set i true).toArray = listed.toArray.setIfInBounds i true := by simp
      rw [← hw']
      rcases h with ⟨hg, h⟩ | ⟨hg, h⟩
      · obtain ⟨tv, v, h1, h2, h3, h4⟩ := qop_sound hk'.reads hk'.boxes hk'.ext h
        obtain ⟨S2, h5, h6, h7, _⟩ := putK_elim hk' h1 v h3 h2
        refine wpAnyH_take hoi hs hfree hmem (fun _ _ _ x => (hp _ _ _ x).elim) (v := v) (.inl ⟨hg, fun w _ => h4 w (.inl hld)⟩) (hw' ▸ hS) ?_
        rw [← set', ← h7]
        exact vcM_sound hs hp hQ p fuel _ S2 _ h6 (by rw [h7, hw']; exact hS) ho h5
      · obtain ⟨S2, h5, h6, h7, _⟩ := putK_elim hk' h undef trivial (fun _ => rfl)
        refine wpAnyH_take hoi hs hfree hmem (fun _ _ _ x => (hp _ _ _ x).elim) (v := undef) (.inr ⟨hg, rfl⟩) (hw' ▸ hS) ?_
        rw [← set', ← h7]
        exact vcM_sound hs hp hQ p fuel _ S2 _ h6 (by rw [h7, hw']; exact hS) ho h5
  | .start q, fuel, listed, S, a, hk, hS, ho, h => by
    unfold okP at ho
    simp only [Bool.not_false, Bool.true_and, Bool.and_eq_true] at ho
    obtain ⟨⟨⟨hf, hne⟩, hall⟩, ho⟩ := ho
    obtain ⟨fuel, rfl⟩ : ∃ g, fuel = g + 1 := ⟨fuel - 1, by have := Nat.le_of_ble_eq_true hf; omega⟩
    unfold vcM at h
    refine wpAnyH_all rfl (fun e => by rw [e] at hne; cases hne) fun i hi => ?_
    have hin : i ∈ alts q := by
      have := List.all_eq_true.1 hall i hi
      simpa using this
    obtain ⟨p, hlt, hop, h⟩ := altM_mem h ho hin
    cases hoi : ops[i]? with
    | none => rw [show ops.toList[i]? = none from by rw [Array.getElem?_toList]; exact hoi] at h; exact h.elim
    | some o =>
      rw [show ops.toList[i]? = some o from by rw [Array.getElem?_toList]; exact hoi] at h
      dsimp only at h
      obtain ⟨S', hk', hw', hB', h⟩ := guardK_elim hk h
      rw [show ops.toList.toArray = ops from by simp] at h
      have set' : (listed.set i true).toArray = listed.toArray.setIfInBounds i true := by simp
      unfold wpOp
      rw [hoi]
      dsimp only
      rcases h with ⟨hg, h⟩ | ⟨hg, h⟩
      · rw [if_pos hg]
        refine .inl ?_
        rw [← hw']
        exact sstep_sound hk' (fun S2 a2 h2 k2 => ⟨h2.1, by rw [← set']; exact vcM_sound hs hp hQ p fuel _ S2 a2 k2 h2.1 hop h2.2⟩) h
      · rw [hg, if_neg (by simp)]
        obtain ⟨S2, h5, h6, h7, _⟩ := putK_elim hk' h undef trivial (fun _ => rfl)
        rw [← set', ← hw', ← h7]
        have hS2 : SS S2.w := by rw [h7, hw']; exact hS
        exact ⟨hS2, vcM_sound hs hp hQ p fuel _ S2 _ h6 hS2 hop h5⟩
termination_by plan => SizeOf.sizeOf plan
decreasing_by
  all_goals simp_wf
  all_goals omega
theorem vcH_sound {M : Nat → Prop} {wS : World} {c : Ctx} {ops : Array Oper} {p : Plan} {K : St → Prop} {Q : Exit → Act → World → Prop} (hs : Region.noSelect ops = true) (hp : ∀ ch a w, ¬ Q (.panic ch) a w) (hQ : ∀ S a, K S → Ok c S a → Q .normal a S.w) : ∀ (l : List Nat) (fuel : Nat) (listed : List Bool) (S : St) (a : Act), Ok c S a → S.w = wS → okH ops p l fuel listed = true → vcH M wS c ops p l S K → wpAnyH c.P .any ops Q (Ext M wS) fuel listed.toArray a S.w
  | [], fuel, listed, S, a, hk, hw, ho, h => vcM_sound hs hp hQ p fuel listed S a hk (hw ▸ Ext.refl _ _) ho h
  | i :: l, fuel, listed, S, a, hk, hw, ho, h => by
    unfold okH at ho
    simp only [Bool.and_eq_true] at ho
    obtain ⟨⟨⟨⟨hf, hfirst⟩, hfree⟩, hmem⟩, ho⟩ := ho
    obtain ⟨fuel, rfl⟩ : ∃ g, fuel = g + 1 := ⟨fuel - 1, by have := Nat.le_of_ble_eq_true hf; omega⟩
    unfold vcH at h
    cases hoi : ops[i]? with
    | none => rw [show ops.toList[i]? = none from by rw [Array.getElem?_toList]; exact hoi] at h; exact h.elim
    | some o =>
      rw [show ops.toList[i]? = some o from by rw [Array.getElem?_toList]; exact hoi] at h
      dsimp only at h
      obtain ⟨S', hk', hw', hB', h⟩ := guardK_elim hk h
      rw [show ops.toList.toArray = ops from by simp] at h
      have set' : (listed.set i true).toArray = listed.toArray.setIfInBounds i true := by simp
      rw [← hw']
      rcases h with ⟨hg, h⟩ | ⟨hg, h⟩
      · obtain ⟨tv, v, h1, h2, h3, h4⟩ := qopM_sound hk'.reads hk'.boxes hk'.ext h
        obtain ⟨S2, h5, h6, h7, _⟩ := putK_elim hk' h1 v h3 h2
        refine wpAnyH_take hoi hs hfree hmem (fun _ _ _ x => (hp _ _ _ x).elim) (v := v) (.inl ⟨hg, fun w hx => h4 w (.inr (by rw [hw', hw]; exact hx))⟩) (by rw [hw', hw]; exact Ext.refl _ _) ?_
        rw [← set', ← h7]
        exact vcH_sound hs hp hQ l fuel _ S2 _ h6 (by rw [h7, hw', hw]) ho h5
      · obtain ⟨S2, h5, h6, h7, _⟩ := putK_elim hk' h undef trivial (fun _ => rfl)
        refine wpAnyH_take hoi hs hfree hmem (fun _ _ _ x => (hp _ _ _ x).elim) (v := undef) (.inr ⟨hg, rfl⟩) (by rw [hw', hw]; exact Ext.refl _ _) ?_
        rw [← set', ← h7]
        exact vcH_sound hs hp hQ l fuel _ S2 _ h6 (by rw [h7, hw', hw]) ho h5
/-- the loads that no block of M holds are taken first. -/
theorem DRAW.held {c : Ctx} {id : Nat} {ops : Array Oper} {E : List (Nat × TV)} {B : List Bx} {w : World} {K : St → Prop} (M : Nat → Prop) (l : List Nat) (plan : Plan) (hm : c.P.follows .mixedOrders = true) (hs : Region.noSelect ops = true) (hok : okH ops plan l ops.size (noneYet ops.size) = true)
    (h : ∀ w', E0 w w' → Ext M w' w' → withW ⟨E, B, w⟩ w' fun S => vcH M w' c ops plan l S K) : DRAW c id ops ⟨E, B, w⟩ K := by
  refine DRAW.raw fun a hk => ?_
  refine wp_region_held (S := Ext M { w with drawn := w.drawn + 1 }) hm ?_
  have h1 := h { w with drawn := w.drawn + 1 } ((Ext.refl _ _).drawn _) (Ext.refl _ _)
  rw [withW_eq] at h1
  have := vcH_sound (Q := fun e a' w' => e = Exit.normal ∧ ∃ S', K S' ∧ Ok c S' a' ∧ S'.w = w') hs (fun _ _ _ x => by cases x.1) (fun S' a' h2 h3 => ⟨rfl, S', h2, h3, rfl⟩) l _ _ _ a (hk.drawn _) rfl hok h1
  rw [noneYet_eq] at this
  exact this
end Go.X

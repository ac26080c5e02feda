/- Part 10: all orders of a region of open order, by a plan that the kernel checks. -/
import Derived.Test.YtpddilkonkkppaaGreatDoorLib3
import Derived.Laws.OwnMore
namespace Go.X
open Go Go.RowKit

/-- Which operation is taken next: 'one' a pure one, 'start' every one that is ready (a chain of 'alt', ended by 'stop'), 'done' nothing is left. -/
inductive Plan where
  | done | stop
  | one (i : Nat) (p : Plan)
  | start (q : Plan)
  | alt (i : Nat) (p q : Plan)
def alts : Plan → List Nat
  | .alt i _ q => i :: alts q
  | _ => []
def pureAt (ops : Array Oper) (i : Nat) : Bool :=
  match ops[i]? with
  | some o => isPure o.op
  | none => false
def okP (ops : Array Oper) : Plan → Bool → Nat → List Bool → Bool
  | .done, inside, _, ls => !inside && (Region.ready .any ops ls.toArray).isEmpty
  | .stop, inside, _, _ => inside
  | .one i p, inside, f, ls => !inside && Nat.blt 0 f && pureAt ops i && Region.free .any ops ls.toArray i && (Region.ready .any ops ls.toArray).contains i && okP ops p false (f - 1) (ls.set i true)
  | .start q, inside, f, ls => !inside && Nat.blt 0 f && !(Region.ready .any ops ls.toArray).isEmpty && (Region.ready .any ops ls.toArray).all (fun i => (alts q).contains i) && okP ops q true f ls
  | .alt i p q, inside, f, ls => inside && okP ops p false (f - 1) (ls.set i true) && okP ops q true f ls
def vcP (c : Ctx) (ops : Array Oper) : Plan → St → (St → Prop) → Prop
  | .done, S, K => K S
  | .stop, _, _ => True
  | .one i p, S, K => match ops.toList[i]? with
    | some o => guardK ops.toList o S (fun S => qop c.P c.m c.w0 S o.op o.type fun tv => putK c.N S o.dst tv fun S => vcP c ops p S K) (fun S => putK c.N S o.dst (.v undef) fun S => vcP c ops p S K)
    | none => False
  | .start q, S, K => vcP c ops q S K
  | .alt i p q, S, K => (match ops.toList[i]? with
    | some o => guardK ops.toList o S (fun S => sstep c S o fun S => vcP c ops p S K) (fun S => putK c.N S o.dst (.v undef) fun S => vcP c ops p S K)
    | none => False) ∧ vcP c ops q S K
theorem alt_mem {c : Ctx} {ops : Array Oper} {S : St} {K : St → Prop} {f : Nat} {ls : List Bool} {i : Nat} : ∀ {q : Plan}, vcP c ops q S K → okP ops q true f ls = true → i ∈ alts q →
    ∃ p, SizeOf.sizeOf p < SizeOf.sizeOf q ∧ okP ops p false (f - 1) (ls.set i true) = true ∧ (match ops.toList[i]? with
    | some o => guardK ops.toList o S (fun S => sstep c S o fun S => vcP c ops p S K) (fun S => putK c.N S o.dst (.v undef) fun S => vcP c ops p S K)
    | none => False)
  | .alt j p q, h, ho, hi => by
    unfold vcP at h
    unfold okP at ho
    simp only [Bool.true_and, Bool.and_eq_true] at ho
    rcases List.mem_cons.1 hi with rfl | hi
    · exact ⟨p, by simp only [Plan.alt.sizeOf_spec]; omega, ho.1, h.1⟩
    · obtain ⟨p', h1, h2, h3⟩ := alt_mem h.2 ho.2 hi
      exact ⟨p', by simp only [Plan.alt.sizeOf_spec]; omega, h2, h3⟩
theorem vcP_sound {c : Ctx} {ops : Array Oper} {K : St → Prop} {Q : Exit → Act → World → Prop} (hs : Region.noSelect ops = true) (hp : ∀ ch a w, ¬ Q (.panic ch) a w) (hQ : ∀ S a, K S → Ok c S a → Q .normal a S.w) : ∀ (plan : Plan) (fuel : Nat) (listed : List Bool) (S : St) (a : Act), Ok c S a → okP ops plan false fuel listed = true → vcP c ops plan S K → wpAny c.P .any ops Q fuel listed.toArray a S.w
  | .done, fuel, listed, S, a, hk, ho, h => by
    unfold okP at ho
    simp only [Bool.not_false, Bool.true_and, List.isEmpty_iff] at ho
    exact wpAny_done ho (hQ S a h hk) _
  | .stop, _, _, _, _, _, ho, _ => by simp [okP] at ho
  | .alt .., _, _, _, _, _, ho, _ => by simp [okP] at ho
  | .one i p, fuel, listed, S, a, hk, ho, h => by
    unfold okP at ho
    simp only [Bool.not_false, Bool.true_and, Bool.and_eq_true] at ho
    obtain ⟨⟨⟨⟨hf, hpure⟩, hfree⟩, hmem⟩, ho⟩ := ho
    obtain ⟨fuel, rfl⟩ : ∃ g, fuel = g + 1 := ⟨fuel - 1, by have := Nat.le_of_ble_eq_true hf; omega⟩
    unfold vcP at h
    unfold pureAt at hpure
    cases hoi : ops[i]? with
    | none => rw [hoi] at hpure; cases hpure
    | some o =>
      rw [hoi] at hpure
      rw [show ops.toList[i]? = some o from by rw [Array.getElem?_toList]; exact hoi] at h
      dsimp only at h hpure
      obtain ⟨S', hk', hw', hB', h⟩ := guardK_elim hk h
      rw [show ops.toList.toArray = ops from by simp] at h
      have hld : isLd o.op = false := by cases hop : o.op <;> rw [hop] at hpure <;> first | rfl | cases hpure
      have set' : (listed.set i true).toArray = listed.toArray.setIfInBounds i true := by simp
      rw [← hw']
      rcases h with ⟨hg, h⟩ | ⟨hg, h⟩
      · obtain ⟨tv, v, h1, h2, h3, h4⟩ := qop_sound hk'.reads hk'.boxes hk'.ext h
        obtain ⟨S2, h5, h6, h7, _⟩ := putK_elim hk' h1 v h3 h2
        refine wpAny_take hoi hs hfree hmem (fun _ _ _ x => (hp _ _ _ x).elim) (v := v) (.inl ⟨hg, fun w => h4 w (.inl hld)⟩) ?_
        rw [← set', ← h7]
        exact vcP_sound hs hp hQ p fuel _ S2 _ h6 ho h5
      · obtain ⟨S2, h5, h6, h7, _⟩ := putK_elim hk' h undef trivial (fun _ => rfl)
        refine wpAny_take hoi hs hfree hmem (fun _ _ _ x => (hp _ _ _ x).elim) (v := undef) (.inr ⟨hg, rfl⟩) ?_
        rw [← set', ← h7]
        exact vcP_sound hs hp hQ p fuel _ S2 _ h6 ho h5
  | .start q, fuel, listed, S, a, hk, ho, h => by
    unfold okP at ho
    simp only [Bool.not_false, Bool.true_and, Bool.and_eq_true] at ho
    obtain ⟨⟨⟨hf, hne⟩, hall⟩, ho⟩ := ho
    obtain ⟨fuel, rfl⟩ : ∃ g, fuel = g + 1 := ⟨fuel - 1, by have := Nat.le_of_ble_eq_true hf; omega⟩
    unfold vcP at h
    refine wpAny_all rfl (fun e => by rw [e] at hne; cases hne) fun i hi => ?_
    have hin : i ∈ alts q := by
      have := List.all_eq_true.1 hall i hi
      simpa using this
    obtain ⟨p, hlt, hop, h⟩ := alt_mem h ho hin
    cases hoi : ops[i]? with
    | none => rw [show ops.toList[i]? = none from by rw [Array.getElem?_toList]; exact hoi] at h; exact h.elim
    | some o =>
      rw [show ops.toList[i]? = some o from by rw [Array.getElem?_toList]; exact hoi] at h
      dsimp only at h
      obtain ⟨S', hk', hw', hB', h⟩ := guardK_elim hk h
      rw [show ops.toList.toArray = ops from by simp] at h
      have set' : (listed.set i true).toArray = listed.toArray.setIfInBounds i true := by simp
      unfold wpOp
      rw [hoi]
      dsimp only
      rcases h with ⟨hg, h⟩ | ⟨hg, h⟩
      · rw [if_pos hg]
        refine .inl ?_
        rw [← hw']
        exact sstep_sound hk' (fun S2 a2 h2 k2 => by rw [← set']; exact vcP_sound hs hp hQ p fuel _ S2 a2 k2 hop h2) h
      · rw [hg, if_neg (by simp)]
        obtain ⟨S2, h5, h6, h7, _⟩ := putK_elim hk' h undef trivial (fun _ => rfl)
        rw [← set', ← hw', ← h7]
        exact vcP_sound hs hp hQ p fuel _ S2 _ h6 hop h5
termination_by plan => SizeOf.sizeOf plan
decreasing_by
  all_goals simp_wf
  all_goals omega
theorem DRAW.plan {c : Ctx} {id : Nat} {ops : Array Oper} {E : List (Nat × TV)} {B : List Bx} {w : World} {K : St → Prop} (plan : Plan) (hm : c.P.follows .mixedOrders = true) (hs : Region.noSelect ops = true) (hok : okP ops plan false ops.size (noneYet ops.size) = true)
    (h : ∀ w', E0 w w' → withW ⟨E, B, w⟩ w' fun S => vcP c ops plan S K) : DRAW c id ops ⟨E, B, w⟩ K := by
  refine DRAW.raw fun a hk => ?_
  refine wp_region_any hm ?_
  have h1 := h { w with drawn := w.drawn + 1 } ((Ext.refl _ _).drawn _)
  rw [withW_eq] at h1
  have := vcP_sound (Q := fun e a' w' => e = Exit.normal ∧ ∃ S', K S' ∧ Ok c S' a' ∧ S'.w = w') hs (fun _ _ _ x => by cases x.1) (fun S' a' h2 h3 => ⟨rfl, S', h2, h3, rfl⟩) plan _ _ _ a (hk.drawn _) hok h1
  rw [noneYet_eq] at this
  exact this
theorem AR.gen {k : IntKind} {z z' : Int} {p : Int → Prop} (h : k.wrap z = z') (hp : p z') : AR k z p := ⟨h ▸ hp⟩
theorem Row.cells {w : World} {ad : Addr} {sz : Nat} {ns : List (List Value)} (hr : Row w (some ad) sz ns) (hp : 0 < sz) : ∀ j u, ns.flatten[j]? = some u → w.cell? (ad.add j) = some u := by
  intro j u hj
  have hns : Wide sz ns := by
    intro l hl'
    obtain ⟨i, hi', hh⟩ := List.getElem_of_mem hl'
    exact (hr i l (by rw [List.getElem?_eq_getElem hi', hh])).1
  have hlt : j < ns.flatten.length := by
    rcases Nat.lt_or_ge j ns.flatten.length with h | h
    · exact h
    · rw [List.getElem?_eq_none h] at hj; cases hj
  rw [length_flat hns] at hlt
  have hq : j / sz < ns.length := Nat.div_lt_of_lt_mul (by rw [Nat.mul_comm]; exact hlt)
  have hrm : j % sz < sz := Nat.mod_lt _ hp
  obtain ⟨e1, ad', e2, e3⟩ := hr (j / sz) ns[j / sz] (by simp [hq])
  cases e2
  have hlen : j % sz < ns[j / sz].length := by omega
  have e4 := e3 (j % sz) ns[j / sz][j % sz] (by simp [hlen])
  have e5 := flat_get hns (j / sz) ns[j / sz] (by simp [hq]) (j % sz) ns[j / sz][j % sz] (by simp [hlen])
  have e6 : j / sz * sz + j % sz = j := by rw [Nat.mul_comm]; exact Nat.div_add_mod j sz
  rw [e6] at e5
  rw [Addr.add_add, e6] at e4
  rw [e4]
  rw [hj] at e5
  exact e5.symm
/-- 'append' of what fits: in place. -/
theorem apFit {c : Ctx} {E : List (Nat × TV)} {B : List Bx} {w : World} {k : Value → World → Prop} {t ty e : TypeId} {sz by_ : Nat} {z : List Value} (he : ElemT c.P t e sz by_ z) {v x : Value} {lo g : Nat} {ls ns : List (List Value)} {b : Addr} {n m cp cc : Nat}
    (hv : v = .slice (some ⟨g, 0, none⟩) n cp) (hx : x = .slice (some b) m cc) (ho : Own w lo e sz (.slice (some ⟨g, 0, none⟩) n cp) ls) (hr : Row w (some b) sz ns) (hm : ns.length = m) (h1 : ∀ l ∈ ns, allOne l = true) (hroom : n + m ≤ cp)
    (hlo : ∀ k, k < c.w0.heap.size → g = k → c.m k) (hn : NotIn (fun k => g = k) B)
    (h : ∀ w', Ext (fun k => g = k) w w' → Own w' lo e sz (.slice (some ⟨g, 0, none⟩) (n + m) cp) (ls ++ ns) → k (.slice (some ⟨g, 0, none⟩) (n + m) cp) w') : WOP c ⟨E, B, w⟩ (Builtin.append_ #[t, t] ty #[v, x]) k := by
  subst hv hx
  obtain ⟨und, ⟨i, hi, hs, hby, zv, hz, hc⟩, hl, hp⟩ := he
  have hns : Wide sz ns := by
    intro l hl'
    obtain ⟨i, hi', hh⟩ := List.getElem_of_mem hl'
    exact (hr i l (by rw [List.getElem?_eq_getElem hi', hh])).1
  have hln := ho.row.2
  obtain ⟨how, hwd⟩ := ho
  rw [hln] at how
  have wd : Wide sz (ls ++ ns) := by
    intro l hl'
    rcases List.mem_append.1 hl' with h | h
    · exact hwd l h
    · exact hns l h
  obtain ⟨w', r1, r2, r3⟩ := run_append_fits (P := c.P) (w := w) lo t ty e i sz und hi hs g n cp ls.flatten how b m cc ns.flatten (by rw [length_flat hns, hm]) (hr.cells hp) (allOneW hr h1) hroom
  have x := (Ext.ofGrown r3).mono (m' := fun k => g = k) fun k _ hk => by cases hk; rfl
  refine WOP.mk fun _ _ => ⟨_, w', r1, _, x, hn, hlo, h w' x ⟨?_, wd⟩⟩
  have : (ls ++ ns).length = n + m := by simp [hm, hln]
  rw [this, List.flatten_append]
  exact r2
theorem Own.base {w : World} {lo : Nat} {e : TypeId} {sz : Nat} {a : Option Addr} {n c : Nat} {ls : List (List Value)} (h : Own w lo e sz (.slice a n c) ls) (hn : 0 < n) : ∃ g, a = some ⟨g, 0, none⟩ := by
  obtain ⟨g, cur, rfl, -⟩ := h.heap (by rw [h.row.2]; exact hn)
  exact ⟨g, rfl⟩
/-- the first elements, as the code's cut tells them. -/
theorem cut0 (g : Nat) (c k : Nat) (sz : Nat) : Value.slice (if (c : Int).toNat = Int.toNat 0 then some ⟨g, 0, none⟩ else Option.map (fun x : Addr => x.add (Int.toNat 0 * sz)) (some ⟨g, 0, none⟩)) ((k : Int).toNat - Int.toNat 0) ((c : Int).toNat - Int.toNat 0) = .slice (some ⟨g, 0, none⟩) k c := by
  split <;> simp [Addr.add_lit]
theorem cutAt (g : Nat) (c j hi : Nat) (sz : Nat) (h : j < c) (l : Int) (hl : l = j) : Value.slice (if (c : Int).toNat = l.toNat then some ⟨g, 0, none⟩ else Option.map (fun x : Addr => x.add (l.toNat * sz)) (some ⟨g, 0, none⟩)) ((hi : Int).toNat - l.toNat) ((c : Int).toNat - l.toNat) = .slice (some ⟨g, j * sz, none⟩) (hi - j) (c - j) := by
  subst hl
  rw [if_neg (by omega)]
  simp [Addr.add_lit]
theorem DRAW.quietE {c : Ctx} {id : Nat} {ops : Array Oper} {E : List (Nat × TV)} {B : List Bx} {w : World} {K : St → Prop} (hm : c.P.follows .mixedOrders = true) (hB : Region.lexB .any ops = true)
    (h : vcQ c ops.toList ops.toList ⟨E, B, w⟩ fun S' => ∀ w', E0 w w' → withW S' w' K) : DRAW c id ops ⟨E, B, w⟩ K := DRAW.quiet hm hB h
end Go.X
